/- Whether a transaction that makes coins is well made, and whether a transaction is: the program's answers, which are errors laid in variables. Conditions: rows of at most 2^39 things. -/
import Derived.Test.YtjfeehoflahblaaDoorSeen
namespace Go.Proofs.YtjfeehoflahblaaDoor
open Go.RowKit Go.Maps

/-- The variable's cell, in every later world. -/
def ErrAt (w : World) (g : Nat) (e : Value) : Prop := w.cell? ⟨g, 0, none⟩ = some e ∧ g < w.heap.size
theorem ErrAt.below {w w' : World} {g : Nat} {e : Value} (h : ErrAt w g e) (hb : Below w.heap.size w w') : w'.cell? ⟨g, 0, none⟩ = some e := (hb.cell (p := ⟨g, 0, none⟩) h.2).trans h.1
theorem ErrAt.later {w w' : World} {g : Nat} {e : Value} (h : ErrAt w g e) (hb : Below w.heap.size w w') : ErrAt w' g e := ⟨h.below hb, Nat.lt_of_lt_of_le h.2 hb.size⟩

/-- What tx.base answers. -/
def baseE (t : TTx) (e : Value) : Value := if baseP t then (match t.ins with | x :: _ => if x.key.length < 4 then e else .nilIface | [] => .nilIface) else if t.ins.any nullIn then e else .nilIface
theorem baseE_not {t : TTx} {e : Value} (h : baseP t = false) : baseE t e = if t.ins.any nullIn then e else .nilIface := by unfold baseE; simp [h]
theorem baseE_one {t : TTx} {e : Value} {x : TIn} (h : baseP t = true) (hx : t.ins[0]? = some x) : baseE t e = if x.key.length < 4 then e else .nilIface := by
  unfold baseE
  cases hi : t.ins with
  | nil => rw [hi] at hx; simp at hx
  | cons y r => rw [hi] at hx; simp at hx; subst hx; simp [h]
theorem baseP_len {t : TTx} (h : baseP t = true) : t.ins.length = 1 := by
  by_cases h1 : t.ins.length = 1
  · exact h1
  · rw [baseP_ne h1] at h; cases h

set_option maxRecDepth 100000 in
set_option maxHeartbeats 1000000 in
theorem base_calls (t : TTx) (A A' : Option Addr) (c c' : Nat) (e : Value) (w : World) (hi : RdIns w w.heap.size A t.ins) (hk : t.Ok) (hf : t.Fit) (he : ErrAt w 11 e) :
    Calls Tryd.prog 84 #[.agg (txC t A c A' c').toArray] w fun x w' => x = .returned (baseE t e) ∧ Below w.heap.size w w' := by
  have hil := hf.i
  have tok1 : True := trivial
  have tok3 : True := trivial
  have HC := Lib.hid (fun (w1 : World) (hh : RdIns w1 w1.heap.size A t.ins) => txBase_calls t A A' c c' w1 hh hk hf)
  by_cases hbp : baseP t = true
  · have h1 := baseP_len hbp
    obtain ⟨x, hx⟩ : ∃ x, t.ins[0]? = some x := ⟨_, List.getElem?_eq_getElem (by omega)⟩
    obtain ⟨b, o, K, kc, rfl, hbl, hcell, hkey⟩ := hi 0 x hx
    have hxk := hk.ins x (mem_of_get hx)
    have h33 : w.cell? ⟨b, o + 33, none⟩ = some (.slice K x.key.length kc) := by
      have := hcell 33 _ (inC_33 hxk.txl K kc)
      simpa using this
    rw [hbp] at HC
    have e2 : (0 : Int) < (t.ins.length : Int) := by omega
    have hne : ¬ t.ins = [] := by intro h; rw [h] at h1; cases h1
    have HB0 := baseE_one (e := e) hbp hx
    clear hcell hkey hx hxk h1 hbp
    by_cases h4 : x.key.length < 4
    all_goals
      first | rw [if_pos h4] at HB0 | rw [if_neg h4] at HB0
      have HB := Lib.hid HB0
      clear HB0
      go_enter Tryd.func84, Tryd.ntmps84
      go_wp2_with (first
        | (have _t := tok1; refine wp_box (o := ⟨some 1, _, _, _, _, _⟩) rfl _ _ rfl rfl ?_; intro g1 wa h1 ba ga; clear _t tok1
           have h1q : Bk wa g1 26 (txC t (some ⟨b, o, none⟩) c A' c').toArray := h1)
        | (have _t := tok3; refine wp_load (o := ⟨some 3, _, _, _, _, _⟩) (cs := txC t (some ⟨b, o, none⟩) c A' c') rfl _ _ rfl agTx rfl rfl (Bk.all h1q) ?_; clear _t tok3))
      refine (HC.out _ ((hi.below ba).more ba.size)).mono ?_
      rintro y wb ⟨rfl, bb⟩
      have bwb := ba.trans (bb.mono ba.size)
      have c1b : wb.cell? ⟨g1, 1, none⟩ = some (.slice (some ⟨b, o, none⟩) t.ins.length c) := ((h1q.same bb).cell 1).trans rfl
      have h33b : wb.cell? ⟨b, o + 33, none⟩ = some (.slice K x.key.length kc) := (bwb.cell (p := ⟨b, _, none⟩) hbl).trans h33
      have heb := he.below bwb
      clear h33 h1q h1
      go_wp2_with fail
      go_ret
      exact ⟨by rw [HB.out]; rfl, bwb⟩
  · have hbf : baseP t = false := by simpa using hbp
    rw [hbf] at HC
    have HA := Lib.hid (fun (w1 : World) (hh : RdIns w1 w1.heap.size A t.ins) => anyN_calls t.ins A c w1 hh hk.ins hil)
    have HB0 := baseE_not (e := e) hbf
    clear hbp hbf
    by_cases h4 : t.ins.any nullIn = true
    all_goals
      first | rw [if_pos h4] at HB0 | rw [if_neg h4] at HB0
      first | rw [h4] at HA | rw [show t.ins.any nullIn = false by simpa using h4] at HA
      have HB := Lib.hid HB0
      clear HB0 h4
      go_enter Tryd.func84, Tryd.ntmps84
      go_wp2_with (first
        | (have _t := tok1; refine wp_box (o := ⟨some 1, _, _, _, _, _⟩) rfl _ _ rfl rfl ?_; intro g1 wa h1 ba ga; clear _t tok1
           have h1q : Bk wa g1 26 (txC t A c A' c').toArray := h1)
        | (have _t := tok3; refine wp_load (o := ⟨some 3, _, _, _, _, _⟩) (cs := txC t A c A' c') rfl _ _ rfl agTx rfl rfl (Bk.all h1q) ?_; clear _t tok3))
      refine (HC.out _ ((hi.below ba).more ba.size)).mono ?_
      rintro y wb ⟨rfl, bb⟩
      have bwb := ba.trans (bb.mono ba.size)
      have c1b : wb.cell? ⟨g1, 1, none⟩ = some (.slice A t.ins.length c) := ((h1q.same bb).cell 1).trans rfl
      clear h1q h1
      go_wp2_with fail
      refine (HA.out _ ((hi.below bwb).more bwb.size)).mono ?_
      rintro y wc ⟨rfl, bc⟩
      have bwc := bwb.trans (bc.mono bwb.size)
      have hec := he.below bwc
      clear c1b
      go_wp2_with fail
      go_ret
      exact ⟨by rw [HB.out]; rfl, bwc⟩
end Go.Proofs.YtjfeehoflahblaaDoor
