/- Whether a transaction makes coins: the program's and the reference's Base. Conditions: rows of at most 2^39 things. -/
import Derived.Test.YtjfeehoflahblaaDoorNull
namespace Go.Proofs.YtjfeehoflahblaaDoor
open Go.RowKit

theorem exec_load {P : Program} {w : World} {o : Oper} {a : Act} (ty : Nat) (x : Operand) (ho : o.op = .load ty x) {n : Nat} (hA : Ag P ty n) {b off : Nat} (hx : a.eval x = .pointer (some ⟨b, off, none⟩)) {cs : List Value} (hl : cs.length = n)
    (hc : ∀ j u, cs[j]? = some u → w.cell? ⟨b, off + j, none⟩ = some u) : (execOp a.eval o).run P w = .ok (.value (.agg cs.toArray)) w := by
  unfold execOp
  simp only [ho, hx, Instr.loadAt, Instr.sureAddr, Sem.run_bind, Sem.run_pure, Result.andThen_ok, run_load_at hA hl hc]
/-- One input, of none. -/
def baseP (t : TTx) : Bool := match t.ins with
  | [x] => isNullP x.tx x.n
  | _ => false
theorem baseP_ne {t : TTx} (h : t.ins.length ≠ 1) : baseP t = false := by
  unfold baseP
  split
  · rename_i x hx; rw [hx] at h; exact absurd rfl h
  · rfl
theorem baseP_one {t : TTx} {x : TIn} (h : t.ins = [x]) : baseP t = isNullP x.tx x.n := by
  unfold baseP; rw [h]

set_option maxRecDepth 100000 in
set_option maxHeartbeats 1000000 in
theorem txBase_calls (t : TTx) (A A' : Option Addr) (c c' : Nat) (w : World) (hi : RdIns w w.heap.size A t.ins) (hk : t.Ok) (hf : t.Fit) :
    Calls Tryd.prog 21 #[.agg (txC t A c A' c').toArray] w fun e w' => e = .returned (.bool (baseP t)) ∧ Below w.heap.size w w' := by
  have hil := hf.i
  have tok1 : True := trivial
  by_cases h1 : t.ins.length = 1
  · obtain ⟨x, hx⟩ : ∃ x, t.ins = [x] := by
      match h : t.ins, h1 with
      | [x], _ => exact ⟨x, rfl⟩
    have hx0 : t.ins[0]? = some x := by rw [hx]; rfl
    obtain ⟨b, o, K, kc, rfl, hbl, hcell, hkey⟩ := hi 0 x hx0
    have hxk := hk.ins x (mem_of_get hx0)
    have HXK := Lib.hid hxk
    have HB := Lib.hid (baseP_one hx)
    have hle1 : t.ins.length ≤ 1 := by omega
    have hle2 : 1 ≤ t.ins.length := by omega
    have e1 : ((t.ins.length : Int) == 1) = true := by simp; omega
    have e2 : (0 : Int) < (t.ins.length : Int) := by omega
    clear h1 hx hx0 hxk
    go_enter Tryd.func21, Tryd.ntmps21
    have tok12 : True := trivial
    go_wp2_with (first
      | (have _t := tok1; refine wp_box (o := ⟨some 1, _, _, _, _, _⟩) rfl _ _ rfl rfl ?_; intro g1 wa h1 ba ga; clear _t tok1
         have c1 : wa.cell? ⟨g1, 1, none⟩ = some (.slice (some ⟨b, o, none⟩) t.ins.length c) := (h1.cell 1).trans rfl)
      | (have _t := tok12; refine wp_load_g (o := ⟨some 12, _, _, _, _, _⟩) (by rfl) _ _ rfl agPoint rfl (cs := pC x.tx x.n) (pC_length HXK.out.txl _) (fun j u hu => (ba.cell (p := ⟨b, _, none⟩) hbl).trans (by have := hcell j u (inC_pt HXK.out.txl K kc hu); simpa using this)) ?_; clear _t tok12))
    refine (isNull_calls x.tx x.n _ HXK.out.txl HXK.out.tx HXK.out.n).mono ?_
    rintro e wb ⟨rfl, bb⟩
    go_wp2_with fail
    go_ret
    exact ⟨by rw [HB.out]; rfl, ba.trans (bb.mono ba.size)⟩
  · have e1 : ((t.ins.length : Int) == 1) = false := by simp; omega
    have HB := Lib.hid (baseP_ne h1)
    clear h1
    go_enter Tryd.func21, Tryd.ntmps21
    go_wp2_with (have _t := tok1; refine wp_box (o := ⟨some 1, _, _, _, _, _⟩) rfl _ _ rfl rfl ?_; intro g1 wa h1 ba ga; clear _t tok1
                 have c1 : wa.cell? ⟨g1, 1, none⟩ = some (.slice A t.ins.length c) := (h1.cell 1).trans rfl)
    go_ret
    exact ⟨by rw [HB.out]; rfl, ba⟩

set_option maxRecDepth 100000 in
set_option maxHeartbeats 1000000 in
theorem refBase_calls (t : TTx) (A A' : Option Addr) (c c' : Nat) (w : World) (hi : RdIns w w.heap.size A t.ins) (hk : t.Ok) (hf : t.Fit) :
    Calls Tryd.prog 22 #[.agg (txC t A c A' c').toArray] w fun e w' => e = .returned (.bool (baseP t)) ∧ Below w.heap.size w w' := by
  have hil := hf.i
  have tok1 : True := trivial
  by_cases h1 : t.ins.length = 1
  · obtain ⟨x, hx⟩ : ∃ x, t.ins = [x] := by
      match h : t.ins, h1 with
      | [x], _ => exact ⟨x, rfl⟩
    have hx0 : t.ins[0]? = some x := by rw [hx]; rfl
    obtain ⟨b, o, K, kc, rfl, hbl, hcell, hkey⟩ := hi 0 x hx0
    have hxk := hk.ins x (mem_of_get hx0)
    have HXK := Lib.hid hxk
    have HB := Lib.hid (baseP_one hx)
    have hle1 : t.ins.length ≤ 1 := by omega
    have hle2 : 1 ≤ t.ins.length := by omega
    have e1 : ((t.ins.length : Int) == 1) = true := by simp; omega
    have e2 : (0 : Int) < (t.ins.length : Int) := by omega
    have hne : ¬ t.ins = [] := by rw [hx]; simp
    clear h1 hx hx0 hxk
    go_enter Tryd.func22, Tryd.ntmps22
    go_wp2_with (have _t := tok1; refine wp_box (o := ⟨some 1, _, _, _, _, _⟩) rfl _ _ rfl rfl ?_; intro g1 wa h1 ba ga; clear _t tok1)
    have h1' : Bk wa g1 26 (txC t (some ⟨b, o, none⟩) c A' c').toArray := h1
    have c1 : wa.cell? ⟨g1, 1, none⟩ = some (.slice (some ⟨b, o, none⟩) t.ins.length c) := (h1.cell 1).trans rfl
    have rg : wa.rangeAt b o (pC x.tx x.n) := fun j u hu => (ba.cell (p := ⟨b, _, none⟩) hbl).trans (by have := hcell j u (inC_pt HXK.out.txl K kc hu); simpa using this)
    have hb := ba.size
    clear h1 hcell
    refine wp_region_held_drew (S := fun w' => w'.cell? ⟨g1, 1, none⟩ = some (.slice (some ⟨b, o, none⟩) t.ins.length c) ∧ w'.rangeAt b o (pC x.tx x.n)) (by kernel_rfl) ⟨c1, rg⟩ (fun hHeld => ?_)
    refine wpAnyH_take (i := 0) (oi := ⟨some 3, _, _, _, _, _⟩) (v := .pointer (some ⟨g1, 1, none⟩)) rfl (by kernel_rfl) (by kernel_rfl) (by kernel_rfl) (fun _ _ _ h => h) (.inl ⟨by rfl, fun w' hS => by go_simp⟩) hHeld ?_
    simp only [Act.put, List.setIfInBounds_toArray, List.set_cons_zero, List.set_cons_succ]
    refine wpAnyH_take (i := 1) (oi := ⟨some 4, _, _, _, _, _⟩) (v := .slice (some ⟨b, o, none⟩) t.ins.length c) rfl (by kernel_rfl) (by kernel_rfl) (by kernel_rfl) (fun _ _ _ h => h) (.inl ⟨by rfl, fun w' hS => by have h1 := hS.1; go_simp⟩) hHeld ?_
    simp only [Act.put, List.setIfInBounds_toArray, List.set_cons_zero, List.set_cons_succ]
    refine wpAnyH_take (i := 2) (oi := ⟨some 5, _, _, _, _, _⟩) (v := .int .i64 t.ins.length) rfl (by kernel_rfl) (by kernel_rfl) (by kernel_rfl) (fun _ _ _ h => h) (.inl ⟨by rfl, fun w' hS => by go_simp⟩) hHeld ?_
    simp only [Act.put, List.setIfInBounds_toArray, List.set_cons_zero, List.set_cons_succ]
    refine wpAnyH_take (i := 3) (oi := ⟨some 6, _, _, _, _, _⟩) (v := .bool true) rfl (by kernel_rfl) (by kernel_rfl) (by kernel_rfl) (fun _ _ _ h => h) (.inl ⟨by rfl, fun w' hS => by go_simp⟩) hHeld ?_
    simp only [Act.put, List.setIfInBounds_toArray, List.set_cons_zero, List.set_cons_succ]
    refine wpAnyH_take (i := 4) (oi := ⟨some 7, _, _, _, _, _⟩) (v := .bool true) rfl (by kernel_rfl) (by kernel_rfl) (by kernel_rfl) (fun _ _ _ h => h) (.inl ⟨by rfl, fun w' hS => by go_simp⟩) hHeld ?_
    simp only [Act.put, List.setIfInBounds_toArray, List.set_cons_zero, List.set_cons_succ]
    refine wpAnyH_take (i := 5) (oi := ⟨some 8, _, _, _, _, _⟩) (v := .pointer (some ⟨g1, 1, none⟩)) rfl (by kernel_rfl) (by kernel_rfl) (by kernel_rfl) (fun _ _ _ h => h) (.inl ⟨by rfl, fun w' hS => by go_simp⟩) hHeld ?_
    simp only [Act.put, List.setIfInBounds_toArray, List.set_cons_zero, List.set_cons_succ]
    refine wpAnyH_take (i := 6) (oi := ⟨some 9, _, _, _, _, _⟩) (v := .slice (some ⟨b, o, none⟩) t.ins.length c) rfl (by kernel_rfl) (by kernel_rfl) (by kernel_rfl) (fun _ _ _ h => h) (.inl ⟨by rfl, fun w' hS => by have h1 := hS.1; go_simp⟩) hHeld ?_
    simp only [Act.put, List.setIfInBounds_toArray, List.set_cons_zero, List.set_cons_succ]
    refine wpAnyH_take (i := 7) (oi := ⟨some 10, _, _, _, _, _⟩) (v := .pointer (some ⟨b, o, none⟩)) rfl (by kernel_rfl) (by kernel_rfl) (by kernel_rfl) (fun _ _ _ h => h) (.inl ⟨by rfl, fun w' hS => by go_simp⟩) hHeld ?_
    simp only [Act.put, List.setIfInBounds_toArray, List.set_cons_zero, List.set_cons_succ]
    refine wpAnyH_take (i := 8) (oi := ⟨some 11, _, _, _, _, _⟩) (v := .pointer (some ⟨b, o, none⟩)) rfl (by kernel_rfl) (by kernel_rfl) (by kernel_rfl) (fun _ _ _ h => h) (.inl ⟨by rfl, fun w' hS => by go_simp⟩) hHeld ?_
    simp only [Act.put, List.setIfInBounds_toArray, List.set_cons_zero, List.set_cons_succ]
    refine wpAnyH_take (i := 9) (oi := ⟨some 12, _, _, _, _, _⟩) (v := .agg (pC x.tx x.n).toArray) rfl (by kernel_rfl) (by kernel_rfl) (by kernel_rfl) (fun _ _ _ h => h) (.inl ⟨by rfl, fun w' hS => exec_load _ _ rfl agPoint rfl (pC_length HXK.out.txl x.n) hS.2⟩) hHeld ?_
    simp only [Act.put, List.setIfInBounds_toArray, List.set_cons_zero, List.set_cons_succ]
    refine hOne (i := 10) (o := ⟨some 13, _, _, _, _, _⟩) (by kernel_rfl) rfl (by rfl) ?_
    go_simp
    refine (refNull_calls _).mono ?_
    rintro e wb ⟨rfl, bb⟩
    have h1b := h1'.drew.same bb
    have bwb := ba.drew.trans (bb.mono hb)
    have hH2 : wb.cell? ⟨g1, 1, none⟩ = some (.slice (some ⟨b, o, none⟩) t.ins.length c) ∧ wb.rangeAt b o (pC x.tx x.n) := ⟨(h1b.cell 1).trans rfl, fun j u hu => (bb.cell (p := ⟨b, _, none⟩) (Nat.lt_of_lt_of_le hbl hb)).trans (rg j u hu)⟩
    clear hHeld
    refine ⟨hH2, ?_⟩
    refine hOne (i := 11) (o := ⟨some 14, _, _, _, _, _⟩) (by kernel_rfl) rfl (by rfl) ?_
    go_simp
    have hsp : Calls Tryd.prog 77 #[.agg (pC x.tx x.n).toArray, .agg (pC zero32 4294967295).toArray] wb fun e w' => e = .returned (.bool (isNullP x.tx x.n)) ∧ Below wb.heap.size wb w' := samePoint_calls x.tx zero32 x.n 4294967295 _ HXK.out.txl rfl
    refine hsp.mono ?_
    rintro e wc ⟨rfl, bc⟩
    have h1c := h1b.same bc
    have bwc := bwb.trans (bc.mono bwb.size)
    have hHeld : wc.cell? ⟨g1, 1, none⟩ = some (.slice (some ⟨b, o, none⟩) t.ins.length c) ∧ wc.rangeAt b o (pC x.tx x.n) := ⟨(h1c.cell 1).trans rfl, fun j u hu => (bc.cell (p := ⟨b, _, none⟩) (Nat.lt_of_lt_of_le hbl bwb.size)).trans (hH2.2 j u hu)⟩
    refine ⟨hHeld, ?_⟩
    refine wpAnyH_take (i := 12) (oi := ⟨some 15, _, _, _, _, _⟩) (v := .bool (isNullP x.tx x.n)) rfl (by kernel_rfl) (by kernel_rfl) (by kernel_rfl) (fun _ _ _ h => h) (.inl ⟨by rfl, fun w' hS => by go_simp⟩) hHeld ?_
    simp only [Act.put, List.setIfInBounds_toArray, List.set_cons_zero, List.set_cons_succ]
    refine hOne (i := 13) (o := ⟨some 2, _, _, _, _, _⟩) (by kernel_rfl) rfl (by rfl) ?_
    go_simp
    refine ⟨by kernel_rfl, ?_⟩
    go_wp2_with fail
    go_ret
    exact ⟨by rw [HB.out]; rfl, bwc⟩
  · have e1 : ((t.ins.length : Int) == 1) = false := by simp; omega
    have HB := Lib.hid (baseP_ne h1)
    clear h1
    go_enter Tryd.func22, Tryd.ntmps22
    go_wp2_with (have _t := tok1; refine wp_box (o := ⟨some 1, _, _, _, _, _⟩) rfl _ _ rfl rfl ?_; intro g1 wa h1 ba ga; clear _t tok1
                 have c1 : wa.cell? ⟨g1, 1, none⟩ = some (.slice A t.ins.length c) := (h1.cell 1).trans rfl)
    go_quiet (fail)
    go_wp2_with fail
    go_ret
    exact ⟨by rw [HB.out]; rfl, bl_drewN ba _⟩
end Go.Proofs.YtjfeehoflahblaaDoor
