/- A transaction of its own: the library's copies of rows, and the program's Clone: what is answered is the same transaction. Conditions: rows of at most 2^39 things. -/
import Derived.Test.YtjfeehoflahblaaDoorSameTx
import Derived.Deep.DeepCutAuto
import Derived.Deep.RegionWith
namespace Go.Proofs.YtjfeehoflahblaaDoor
open Go.RowKit

/-- cs are the cells of the inputs l. -/
def InCells (w : World) (B : Nat) (cs : List Value) (l : List TIn) : Prop :=
  cs.length = l.length * 35 ∧ (∀ u ∈ cs, u.oneCell' = true) ∧ ∀ j x, l[j]? = some x → x.tx.length = 32 ∧ ∃ K c, (∀ k u, (inC x K c)[k]? = some u → cs[j * 35 + k]? = some u) ∧ Rd w B 1 K x.key.length (ub x.key)
def OutCells (cs : List Value) (l : List TOut) : Prop :=
  cs.length = l.length * 33 ∧ (∀ u ∈ cs, u.oneCell' = true) ∧ ∀ j x, l[j]? = some x → x.lock.length = 32 ∧ ∀ k u, (outC x)[k]? = some u → cs[j * 33 + k]? = some u

/-- The cells that lie from b, o on. -/
def cellsAt (w : World) (b o n : Nat) : List Value := (List.range n).map fun i => (w.cell? ⟨b, o + i, none⟩).getD undef
theorem cellsAt_length (w : World) (b o n : Nat) : (cellsAt w b o n).length = n := by simp [cellsAt]
theorem cellsAt_get {w : World} {b o n i : Nat} {u : Value} (hi : i < n) (h : w.cell? ⟨b, o + i, none⟩ = some u) : (cellsAt w b o n)[i]? = some u := by
  simp [cellsAt, hi, h]
theorem lt_of_get {α : Type} {l : List α} {i : Nat} {x : α} (h : l[i]? = some x) : i < l.length := by
  rcases Nat.lt_or_ge i l.length with h' | h'
  · exact h'
  · rw [List.getElem?_eq_none h'] at h; cases h

theorem RdIns.cells {w : World} {B : Nat} {A : Option Addr} {l : List TIn} (h : RdIns w B A l) (hk : ∀ x ∈ l, x.tx.length = 32) : ∃ cs, Rd w B 35 A l.length cs ∧ InCells w B cs l := by
  rcases Nat.eq_zero_or_pos l.length with h0 | h0
  · have : l = [] := List.eq_nil_of_length_eq_zero h0
    subst this
    exact ⟨[], Rd.nil_ _ _ _ _, by simp, by simp, by simp⟩
  · obtain ⟨b, o, _, _, rfl, hb, _, _⟩ := h 0 l[0] (List.getElem?_eq_getElem h0)
    have key : ∀ i, i < l.length * 35 → ∃ u, w.cell? ⟨b, o + i, none⟩ = some u ∧ u.oneCell' = true := by
      intro i hi
      have hj : i / 35 < l.length := by omega
      obtain ⟨b', o', K, c, e, _, hc, _⟩ := h (i / 35) l[i / 35] (List.getElem?_eq_getElem hj)
      injection e with e; injection e with e1 e2; subst e1; subst e2
      have hl := inC_length (hk l[i / 35] (List.getElem_mem hj)) K c
      have hm : i % 35 < (inC l[i / 35] K c).length := by rw [hl]; omega
      have := hc (i % 35) _ (List.getElem?_eq_getElem hm)
      rw [show o + i / 35 * 35 + i % 35 = o + i by omega] at this
      exact ⟨_, this, inC_one _ _ _ _ (List.getElem_mem hm)⟩
    refine ⟨cellsAt w b o (l.length * 35), Rd.of_cells (cellsAt_length _ _ _ _) hb fun j u hu => ?_, cellsAt_length _ _ _ _, ?_, ?_⟩
    · have hj := lt_of_get hu
      rw [cellsAt_length] at hj
      obtain ⟨v, hv, _⟩ := key j hj
      rw [cellsAt_get hj hv] at hu
      injection hu with hu
      rw [hv, hu]
    · intro u hu
      obtain ⟨i, hi⟩ := List.getElem?_of_mem hu
      have hj := lt_of_get hi
      rw [cellsAt_length] at hj
      obtain ⟨v, hv, h1⟩ := key i hj
      rw [cellsAt_get hj hv] at hi
      injection hi with hi
      rw [← hi]; exact h1
    · intro j x hx
      obtain ⟨b', o', K, c, e, _, hc, hr⟩ := h j x hx
      injection e with e; injection e with e1 e2; subst e1; subst e2
      have hxl := hk x (mem_of_get hx)
      have hj := lt_of_get hx
      refine ⟨hxl, K, c, fun k u hu => ?_, hr⟩
      have hk2 := lt_of_get hu
      rw [inC_length hxl] at hk2
      refine cellsAt_get ?_ ?_
      · have : j * 35 + 35 ≤ l.length * 35 := by rw [← Nat.succ_mul]; exact Nat.mul_le_mul_right _ hj
        omega
      · have := hc k u hu
        rw [show o + (j * 35 + k) = o + j * 35 + k by omega]; exact this
theorem RdOuts.cells {w : World} {B : Nat} {A : Option Addr} {l : List TOut} (h : RdOuts w B A l) (hk : ∀ x ∈ l, x.lock.length = 32) : ∃ cs, Rd w B 33 A l.length cs ∧ OutCells cs l := by
  rcases Nat.eq_zero_or_pos l.length with h0 | h0
  · have : l = [] := List.eq_nil_of_length_eq_zero h0
    subst this
    exact ⟨[], Rd.nil_ _ _ _ _, by simp, by simp, by simp⟩
  · obtain ⟨b, o, rfl, hb, _⟩ := h 0 l[0] (List.getElem?_eq_getElem h0)
    have key : ∀ i, i < l.length * 33 → ∃ u, w.cell? ⟨b, o + i, none⟩ = some u ∧ u.oneCell' = true := by
      intro i hi
      have hj : i / 33 < l.length := by omega
      obtain ⟨b', o', e, _, hc⟩ := h (i / 33) l[i / 33] (List.getElem?_eq_getElem hj)
      injection e with e; injection e with e1 e2; subst e1; subst e2
      have hl := outC_length (hk l[i / 33] (List.getElem_mem hj))
      have hm : i % 33 < (outC l[i / 33]).length := by rw [hl]; omega
      have := hc (i % 33) _ (List.getElem?_eq_getElem hm)
      rw [show o + i / 33 * 33 + i % 33 = o + i by omega] at this
      exact ⟨_, this, outC_one _ _ (List.getElem_mem hm)⟩
    refine ⟨cellsAt w b o (l.length * 33), Rd.of_cells (cellsAt_length _ _ _ _) hb fun j u hu => ?_, cellsAt_length _ _ _ _, ?_, ?_⟩
    · have hj := lt_of_get hu
      rw [cellsAt_length] at hj
      obtain ⟨v, hv, _⟩ := key j hj
      rw [cellsAt_get hj hv] at hu
      injection hu with hu
      rw [hv, hu]
    · intro u hu
      obtain ⟨i, hi⟩ := List.getElem?_of_mem hu
      have hj := lt_of_get hi
      rw [cellsAt_length] at hj
      obtain ⟨v, hv, h1⟩ := key i hj
      rw [cellsAt_get hj hv] at hi
      injection hi with hi
      rw [← hi]; exact h1
    · intro j x hx
      obtain ⟨b', o', e, _, hc⟩ := h j x hx
      injection e with e; injection e with e1 e2; subst e1; subst e2
      have hxl := hk x (mem_of_get hx)
      have hj := lt_of_get hx
      refine ⟨hxl, fun k u hu => ?_⟩
      have hk2 := lt_of_get hu
      rw [outC_length hxl] at hk2
      refine cellsAt_get ?_ ?_
      · have : j * 33 + 33 ≤ l.length * 33 := by rw [← Nat.succ_mul]; exact Nat.mul_le_mul_right _ hj
        omega
      · have := hc k u hu
        rw [show o + (j * 33 + k) = o + j * 33 + k by omega]; exact this
/-- .. and back. -/
theorem InCells.ins {w : World} {B : Nat} {A : Option Addr} {cs : List Value} {l : List TIn} (h : InCells w B cs l) (hr : Rd w B 35 A l.length cs) : RdIns w B A l := fun j x hx => by
  obtain ⟨hxl, K, c, hc, hk⟩ := h.2.2 j x hx
  have h0 := hc 0 _ (List.getElem?_eq_getElem (by rw [inC_length hxl]; omega))
  obtain ⟨b, o, rfl, hb, _⟩ := hr.2 _ _ h0
  refine ⟨b, o, K, c, rfl, hb, fun k u hu => ?_, hk⟩
  have := hr.cells _ u (hc k u hu)
  rw [show o + j * 35 + k = o + (j * 35 + k) by omega]; exact this
theorem OutCells.outs {w : World} {B : Nat} {A : Option Addr} {cs : List Value} {l : List TOut} (h : OutCells cs l) (hr : Rd w B 33 A l.length cs) : RdOuts w B A l := fun j x hx => by
  obtain ⟨hxl, hc⟩ := h.2.2 j x hx
  have h0 := hc 0 _ (List.getElem?_eq_getElem (by rw [outC_length hxl]; omega))
  obtain ⟨b, o, rfl, hb, _⟩ := hr.2 _ _ h0
  refine ⟨b, o, rfl, hb, fun k u hu => ?_⟩
  have := hr.cells _ u (hc k u hu)
  rw [show o + j * 33 + k = o + (j * 33 + k) by omega]; exact this
theorem InCells.keep {w w' : World} {B : Nat} {cs : List Value} {l : List TIn} (h : InCells w B cs l) (hk : ∀ b o, b < B → w'.cell? ⟨b, o, none⟩ = w.cell? ⟨b, o, none⟩) : InCells w' B cs l :=
  ⟨h.1, h.2.1, fun j x hx => by obtain ⟨h1, K, c, h2, h3⟩ := h.2.2 j x hx; exact ⟨h1, K, c, h2, h3.keep hk⟩⟩
theorem InCells.below {w w' : World} {B B' : Nat} {cs : List Value} {l : List TIn} (h : InCells w B cs l) (hb : Below B w w') (hB : B ≤ B') : InCells w' B' cs l :=
  ⟨h.1, h.2.1, fun j x hx => by obtain ⟨h1, K, c, h2, h3⟩ := h.2.2 j x hx; exact ⟨h1, K, c, h2, (h3.below hb).more hB⟩⟩

theorem elIn : El Tryd.prog 23 57 35 72 := El.mk Tryd.underlying23 (z := zIn) (by kernel_rfl) rfl (by omega)
theorem elOut : El Tryd.prog 24 59 33 40 := El.mk Tryd.underlying24 (z := zOut) (by kernel_rfl) rfl (by omega)

theorem cloneIns_calls (A : Option Addr) (c : Nat) (l : List TIn) (w : World) (B : Nat) (hr : RdIns w B A l) (hB : B ≤ w.heap.size) (hk : ∀ x ∈ l, x.Ok) (hn : l.length ≤ 549755813888) :
    Calls Tryd.prog 93 #[.slice A l.length c] w fun e w' => ∃ A' c' cs, e = .returned (.slice A' l.length c') ∧ Ow w' w.heap.size 57 35 A' l.length c' cs ∧ InCells w' B cs l ∧ Below w.heap.size w w' := by
  obtain ⟨cs, hcs, hic⟩ := hr.cells (fun x hx => (hk x hx).txl)
  have hone := hic.2.1
  have HC := Lib.hid hic
  have HO := Lib.hid hone
  have hq := fun w => Lib.run_eql_slice_nil (P := Tryd.prog) w 23 57 A l.length c 0 0 Tryd.underlying23
  clear hic hone
  cases A with
  | none =>
    go_enter Tryd.func93, Tryd.ntmps93
    go_wp2
    go_ret
    have h0 : l.length = 0 := by
      rcases Nat.eq_zero_or_pos l.length with h0 | h0
      · exact h0
      · obtain ⟨b, o, _, _, e, _⟩ := hr 0 l[0] (List.getElem?_eq_getElem h0); cases e
    have hl : l = [] := List.eq_nil_of_length_eq_zero h0
    subst hl
    exact ⟨none, 0, [], rfl, Ow.nil_ _ _ _ _, ⟨by simp, by simp, by simp⟩, Below.refl _ _⟩
  | some ad =>
    go_enter Tryd.func93, Tryd.ntmps93
    go_wp2_with (at_builtin; go_must (refine wp_app rfl _ _ _ rfl elIn rfl (Ow.new0 w 57 35) rfl (hcs.alloc hB _) HO.out (by unfold maxLen; omega) (by omega) (by simp) ?_); intro A' c' w' h1 h2 h3)
    go_ret
    have bw := ((Below.refl _ _).alloc (Nat.le_refl _) _).trans h3
    exact ⟨A', c', cs, by simp, by simpa using h1, HC.out.keep (fun b o h => bw.cell (p := ⟨b, o, none⟩) (Nat.lt_of_lt_of_le h hB)), bw⟩
theorem cloneOuts_calls (A : Option Addr) (c : Nat) (l : List TOut) (w : World) (B : Nat) (hr : RdOuts w B A l) (hB : B ≤ w.heap.size) (hk : ∀ x ∈ l, x.Ok) (hn : l.length ≤ 549755813888) :
    Calls Tryd.prog 94 #[.slice A l.length c] w fun e w' => ∃ A' c' cs, e = .returned (.slice A' l.length c') ∧ Ow w' w.heap.size 59 33 A' l.length c' cs ∧ OutCells cs l ∧ Below w.heap.size w w' := by
  obtain ⟨cs, hcs, hic⟩ := hr.cells (fun x hx => (hk x hx).lockl)
  have hone := hic.2.1
  have HC := Lib.hid hic
  have HO := Lib.hid hone
  have hq := fun w => Lib.run_eql_slice_nil (P := Tryd.prog) w 24 59 A l.length c 0 0 Tryd.underlying24
  clear hic hone
  cases A with
  | none =>
    go_enter Tryd.func94, Tryd.ntmps94
    go_wp2
    go_ret
    have h0 : l.length = 0 := by
      rcases Nat.eq_zero_or_pos l.length with h0 | h0
      · exact h0
      · obtain ⟨b, o, e, _⟩ := hr 0 l[0] (List.getElem?_eq_getElem h0); cases e
    have hl : l = [] := List.eq_nil_of_length_eq_zero h0
    subst hl
    exact ⟨none, 0, [], rfl, Ow.nil_ _ _ _ _, ⟨by simp, by simp, by simp⟩, Below.refl _ _⟩
  | some ad =>
    go_enter Tryd.func94, Tryd.ntmps94
    go_wp2_with (at_builtin; go_must (refine wp_app rfl _ _ _ rfl elOut rfl (Ow.new0 w 59 33) rfl (hcs.alloc hB _) HO.out (by unfold maxLen; omega) (by omega) (by simp) ?_); intro A' c' w' h1 h2 h3)
    go_ret
    have bw := ((Below.refl _ _).alloc (Nat.le_refl _) _).trans h3
    exact ⟨A', c', cs, by simp, by simpa using h1, HC.out, bw⟩

/-- What the two copies leave. -/
def CloneMid (t : TTx) (w : World) (g1 g2 : Nat) (wx : World) : Prop :=
  ∃ A1 c1 cs1 A2 c2 cs2, Bk wx g1 26 (txC t A1 c1 A2 c2).toArray ∧ Bk wx g2 26 (txC ⟨0, [], [], 0⟩ none 0 none 0).toArray ∧
    Ow wx w.heap.size 57 35 A1 t.ins.length c1 cs1 ∧ InCells wx w.heap.size cs1 t.ins ∧ Ow wx w.heap.size 59 33 A2 t.outs.length c2 cs2 ∧ OutCells cs2 t.outs ∧ Below w.heap.size w wx
theorem mid_of {t : TTx} {w wx wy : World} {g1 g2 c c' : Nat} {A A' A1 A2 : Option Addr} {c1 c2 : Nat} {cs1 cs2 : List Value}
    (h1 : Bk wx g1 26 (txC t A c A' c').toArray) (h2 : Bk wx g2 26 (txC ⟨0, [], [], 0⟩ none 0 none 0).toArray) (o1 : Ow wx w.heap.size 57 35 A1 t.ins.length c1 cs1) (i1 : InCells wx w.heap.size cs1 t.ins)
    (o2 : Ow wx w.heap.size 59 33 A2 t.outs.length c2 cs2) (oc : OutCells cs2 t.outs) (b : Below w.heap.size w wx) (hg : w.heap.size ≤ g1) (hn : g1 ≠ g2)
    (hw : wy = (wx.setCell ⟨g1, 1, none⟩ (.slice A1 t.ins.length c1)).setCell ⟨g1, 2, none⟩ (.slice A2 t.outs.length c2) ∨ wy = (wx.setCell ⟨g1, 2, none⟩ (.slice A2 t.outs.length c2)).setCell ⟨g1, 1, none⟩ (.slice A1 t.ins.length c1)) : CloneMid t w g1 g2 wy := by
  have hgr : wx.grownBy wy (some g1) := by
    rcases hw with rfl | rfl
    · exact grown_set (grown_set (World.grownBy.refl _ _) _ _) _ _
    · exact grown_set (grown_set (World.grownBy.refl _ _) _ _) _ _
  refine ⟨A1, c1, cs1, A2, c2, cs2, ?_, h2.grown hgr (by intro e; injection e with e; exact hn e.symm), o1.grown_bk h1 hgr (by decide), i1.keep (fun b' o' hb' => ?_), o2.grown_bk h1 hgr (by decide), oc, b.trans (grown_below hgr hg b.size)⟩
  · rcases hw with rfl | rfl
    · have := (h1.set 1 (.slice A1 t.ins.length c1)).set 2 (.slice A2 t.outs.length c2)
      simpa [txC] using this
    · have := (h1.set 2 (.slice A2 t.outs.length c2)).set 1 (.slice A1 t.ins.length c1)
      simpa [txC] using this
  · exact (grown_below hgr hg b.size).cell (p := ⟨b', o', none⟩) hb'

/-- A store into an owned row. -/
theorem Ow.set {w : World} {base e sz g n c : Nat} {xs : List Value} (h : Ow w base e sz (some ⟨g, 0, none⟩) n c xs) (i : Nat) (u : Value) (hi : i < n * sz) : Ow (w.setCell ⟨g, i, none⟩ u) base e sz (some ⟨g, 0, none⟩) n c (xs.set i u) := by
  rcases h.cases with ⟨h0, _⟩ | ⟨g', cur, hg, hb, _, hbk, hnc, hcm, hcs, htk⟩
  · cases h0
  · injection hg with hg; injection hg with hg; subst hg
    have h2 := hbk.set i u
    have := Ow.of_bk (n := n) (c := c) (sz := sz) h2 hb hnc hcm (by simpa using hcs)
    have e1 : (cur.setIfInBounds i u).toList.take (n * sz) = xs.set i u := by
      rw [← htk, Array.toList_setIfInBounds, List.take_set]
    rw [e1] at this
    exact this
theorem Rd.set_int {w : World} {B n g i : Nat} {A K : Option Addr} {m c : Nat} {xs : List Int} {u : Value} (h : Rd w B 1 A n (ub xs)) (hc : w.cell? ⟨g, i, none⟩ = some (.slice K m c)) : Rd (w.setCell ⟨g, i, none⟩ u) B 1 A n (ub xs) := by
  refine ⟨h.1, fun j v hv => ?_⟩
  obtain ⟨b, o, e, hb, hcell⟩ := h.2 j v hv
  refine ⟨b, o, e, hb, ?_⟩
  rw [World.cell?_setCell_other]
  · exact hcell
  · intro hq
    injection hq with h1 h2
    subst h1
    rw [← h2, hc] at hcell
    injection hcell with hcell
    have := mem_of_get hv
    simp only [ub, List.mem_map] at this
    obtain ⟨z, _, rfl⟩ := this
    cases hcell
theorem InCells.set {w : World} {g : Nat} {B : Nat} {cs : List Value} {l : List TIn} {k : Nat} {x : TIn} {K K' : Option Addr} {c c' : Nat} (h : InCells w B cs l) (hx : l[k]? = some x) (hc : w.cell? ⟨g, k * 35 + 33, none⟩ = some (.slice K x.key.length c))
    (hr : Rd w B 1 K' x.key.length (ub x.key)) : InCells (w.setCell ⟨g, k * 35 + 33, none⟩ (.slice K' x.key.length c')) B (cs.set (k * 35 + 33) (.slice K' x.key.length c')) l := by
  have hk := lt_of_get hx
  have hkl : k * 35 + 35 ≤ cs.length := by rw [h.1, ← Nat.succ_mul]; exact Nat.mul_le_mul_right _ hk
  refine ⟨by rw [List.length_set]; exact h.1, fun u hu => ?_, fun j y hy => ?_⟩
  · rcases List.mem_or_eq_of_mem_set hu with h' | rfl
    · exact h.2.1 u h'
    · rfl
  · obtain ⟨hl, K0, c0, h1, h2⟩ := h.2.2 j y hy
    by_cases hj : j = k
    · subst hj
      rw [hx] at hy; injection hy with hy; subst hy
      refine ⟨hl, K', c', fun i u hu => ?_, hr.set_int hc⟩
      have hi := lt_of_get hu
      rw [inC_length hl] at hi
      by_cases h33 : i = 33
      · subst h33
        rw [inC_33 hl] at hu
        injection hu with hu
        rw [← hu, List.getElem?_set_self (by omega)]
      · rw [List.getElem?_set_ne (by omega)]
        refine h1 i u ?_
        rw [← hu]
        unfold inC
        rcases Nat.lt_or_ge i (ub x.tx).length with hlt | hge
        · rw [List.getElem?_append_left hlt, List.getElem?_append_left hlt]
        · rw [List.getElem?_append_right hge, List.getElem?_append_right hge]
          have e : (ub x.tx).length = 32 := by rw [ub_length, hl]
          rw [e]
          have : i = 32 ∨ i = 34 := by omega
          rcases this with rfl | rfl <;> rfl
    · refine ⟨hl, K0, c0, fun i u hu => ?_, h2.set_int hc⟩
      have hi := lt_of_get hu
      rw [inC_length hl] at hi
      rw [List.getElem?_set_ne (by omega)]
      exact h1 i u hu
theorem Rd.grown_bk {w w' : World} {B n g ty : Nat} {A : Option Addr} {xs : List Int} {cs : Array Value} (h : Rd w B 1 A n (ub xs)) (hb : Bk w g ty cs) (hno : ∀ v ∈ cs, ∀ z, v ≠ .int .u8 z) (hg : w.grownBy w' (some g)) : Rd w' B 1 A n (ub xs) := by
  refine ⟨h.1, fun j v hv => ?_⟩
  obtain ⟨b, o, e, hlt, hcell⟩ := h.2 j v hv
  refine ⟨b, o, e, hlt, grown_cell hg (fun q => ?_) hcell⟩
  injection q with q
  subst q
  rw [hb.cell] at hcell
  have := mem_of_get hv
  simp only [ub, List.mem_map] at this
  obtain ⟨z, _, rfl⟩ := this
  exact hno _ (Array.mem_of_getElem? hcell) z rfl
def CloneS (t : TTx) (w : World) (g1 g2 : Nat) (A1 : Option Addr) (c1 : Nat) (A2 : Option Addr) (c2 : Nat) (cs2 : List Value) (wr : World) : Prop :=
  ∃ cs : List Value, Bk wr g1 26 (txC t A1 c1 A2 c2).toArray ∧ Bk wr g2 26 (txC ⟨0, [], [], 0⟩ none 0 none 0).toArray ∧
    Ow wr w.heap.size 57 35 A1 t.ins.length c1 cs ∧ InCells wr wr.heap.size cs t.ins ∧ Ow wr w.heap.size 59 33 A2 t.outs.length c2 cs2 ∧ Below w.heap.size w wr
def CloneR (t : TTx) (w : World) (g1 g2 : Nat) (A1 : Option Addr) (c1 : Nat) (A2 : Option Addr) (c2 : Nat) (cs2 : List Value) (i : Value) (wr : World) : Prop :=
  ∃ (k : Nat) (cs : List Value), k ≤ t.ins.length ∧ i = .int .i64 k ∧ Bk wr g1 26 (txC t A1 c1 A2 c2).toArray ∧ Bk wr g2 26 (txC ⟨0, [], [], 0⟩ none 0 none 0).toArray ∧
    Ow wr w.heap.size 57 35 A1 t.ins.length c1 cs ∧ InCells wr wr.heap.size cs t.ins ∧ Ow wr w.heap.size 59 33 A2 t.outs.length c2 cs2 ∧ Below w.heap.size w wr

set_option maxRecDepth 100000 in
set_option maxHeartbeats 4000000 in
theorem txClone_calls (t : TTx) (A A' : Option Addr) (c c' : Nat) (w : World) (hi : RdIns w w.heap.size A t.ins) (ho : RdOuts w w.heap.size A' t.outs) (hk : t.Ok) (hf : t.Fit) :
    Calls Tryd.prog 28 #[.agg (txC t A c A' c').toArray] w fun e w' => ∃ ds, e = .returned (.agg ds.toArray) ∧ RdTx w' w'.heap.size ds t ∧ Below w.heap.size w w' := by
  have hil := hf.i
  have hol := hf.o
  have HK := Lib.hid hk
  have tok1 : True := trivial
  have tok2 : True := trivial
  go_enter Tryd.func28, Tryd.ntmps28
  go_upto_region 1 with (first
    | (have _t := tok1; refine wp_box (o := ⟨some 1, _, _, _, _, _⟩) rfl _ _ rfl rfl ?_; intro g1 wa h1 ba ga; clear _t tok1)
    | (have _t := tok2; refine wp_alloc (o := ⟨some 2, _, _, _, _, _⟩) rfl _ rfl (z := .agg (txC ⟨0, [], [], 0⟩ none 0 none 0).toArray) (by kernel_rfl) ?_; intro g2 wb h2 bb gb; clear _t tok2))
  simp only [Act.put, List.setIfInBounds_toArray, List.set_cons_zero, List.set_cons_succ]
  have h1w : Bk wb g1 26 (txC t A c A' c').toArray := Bk.same h1 bb
  have bwb := ba.trans (bb.mono ba.size)
  have sB := bwb.size
  have l1 := h1w.lt
  have l2 := h2.lt
  have e1 : wb.cell? ⟨g1, 1, none⟩ = some (.slice A t.ins.length c) := (h1w.cell 1).trans rfl
  have e2 : wb.cell? ⟨g1, 2, none⟩ = some (.slice A' t.outs.length c') := (h1w.cell 2).trans rfl
  have hiB := (hi.below bwb).below (Below.drew (Below.refl _ _))
  have hoB := (ho.below bwb).below (Below.drew (Below.refl _ _))
  have hg2 : w.heap.size ≤ g2 := Nat.le_trans ba.size gb
  have n12 : g1 ≠ g2 := by have := Bk.lt h1; omega
  clear h1 ba bb
  go_cut [] (fun wx => CloneMid t w g1 g2 wx)
  case first =>
    go_region_with (first
      | (go_at_call 93; refine (cloneIns_calls A c t.ins _ w.heap.size ?_ ?_ hk.ins hil).mono ?_
         first | exact hiB | exact hiO
         first | exact sB | exact sO
         rintro e wI ⟨A1, c1, cs1, rfl, oI, iI, bI⟩
         have h1I : Bk wI g1 26 (txC t A c A' c').toArray := by first | exact h1O.same bI | exact h1w.drew.same bI
         have h2I : Bk wI g2 26 (txC ⟨0, [], [], 0⟩ none 0 none 0).toArray := by first | exact h2O.same bI | exact Bk.same h2.drew bI
         have d1 : wI.cell? ⟨g1, 1, none⟩ = some (.slice A t.ins.length c) := (h1I.cell 1).trans rfl
         have d2 : wI.cell? ⟨g1, 2, none⟩ = some (.slice A' t.outs.length c') := (h1I.cell 2).trans rfl
         have z1 := h1I.frozen 1
         have z2 := h1I.frozen 2
         have bwI : Below w.heap.size w wI := by first | exact bwO.trans (bI.mono bwO.size) | exact bwb.drew.trans (bI.mono bwb.size)
         have hoI := ho.below bwI
         have sI := bwI.size)
      | (go_at_call 94; refine (cloneOuts_calls A' c' t.outs _ w.heap.size ?_ ?_ hk.outs hol).mono ?_
         first | exact hoB | exact hoI
         first | exact sB | exact sI
         rintro e wO ⟨A2, c2, cs2, rfl, oO, iO, bO⟩
         have h1O : Bk wO g1 26 (txC t A c A' c').toArray := by first | exact h1I.same bO | exact h1w.drew.same bO
         have h2O : Bk wO g2 26 (txC ⟨0, [], [], 0⟩ none 0 none 0).toArray := by first | exact h2I.same bO | exact Bk.same h2.drew bO
         have d1' : wO.cell? ⟨g1, 1, none⟩ = some (.slice A t.ins.length c) := (h1O.cell 1).trans rfl
         have d2' : wO.cell? ⟨g1, 2, none⟩ = some (.slice A' t.outs.length c') := (h1O.cell 2).trans rfl
         have z1' := h1O.frozen 1
         have z2' := h1O.frozen 2
         have bwO : Below w.heap.size w wO := by first | exact bwI.trans (bO.mono bwI.size) | exact bwb.drew.trans (bO.mono bwb.size)
         have hiO := hi.below bwO
         have sO := bwO.size))
    all_goals
      go_wp2_with fail
      go_meet
      first
        | exact mid_of h1O h2O ((oI.down sB).same bO) (iI.keep fun b' o' h => bO.cell (p := ⟨b', o', none⟩) (Nat.lt_of_lt_of_le h sI)) (oO.down sI) iO bwO ga n12 (.inl rfl)
        | exact mid_of h1I h2I (oI.down sO) iI ((oO.down sB).same bI) iO bwI ga n12 (.inl rfl)
        | exact mid_of h1O h2O ((oI.down sB).same bO) (iI.keep fun b' o' h => bO.cell (p := ⟨b', o', none⟩) (Nat.lt_of_lt_of_le h sI)) (oO.down sI) iO bwO ga n12 (.inr rfl)
        | exact mid_of h1I h2I (oI.down sO) iI ((oO.down sB).same bI) iO bwI ga n12 (.inr rfl)
  case rest =>
    obtain ⟨A1, c1, cs1, A2, c2, cs2, h1, h2x, oI, iI, oO, iO, bx⟩ := hcut
    have e1 := (h1.cell 1).trans (show _ = some (Value.slice A1 t.ins.length c1) from rfl)
    have HO := Lib.hid iO
    clear iO h2
    go_wp2
    clear e1
    go_loopw [15] (CloneR t w g1 g2 A1 c1 A2 c2 cs2) (fun i _ => t.ins.length - (intOf i).toNat)
    case atStart => exact ⟨0, cs1, by omega, rfl, h1, h2x, oI, iI.below (Below.refl _ _) bx.size, oO, bx⟩
    case round =>
      clear h1 h2x oI iI oO bx
      obtain ⟨k, cs, hk1, rfl, h1, h2, oI, iI, oO, bx⟩ := hrel
      by_cases hlt : k < t.ins.length
      · obtain ⟨x, hx⟩ : ∃ x, t.ins[k]? = some x := ⟨_, List.getElem?_eq_getElem hlt⟩
        obtain ⟨hxl, K, kc, hcc, hkey⟩ := iI.2.2 k x hx
        have h33 := hcc 33 _ (inC_33 hxl K kc)
        obtain ⟨g, rfl⟩ : ∃ g, A1 = some ⟨g, 0, none⟩ := by
          rcases oI.cases with ⟨_, h, _⟩ | ⟨g, _, h, _⟩
          · omega
          · exact ⟨g, h⟩
        have hc33 : wr.cell? ⟨g, k * 35 + 33, none⟩ = some (.slice K x.key.length kc) := by
          have := oI.rd.cells _ _ h33
          rwa [Nat.zero_add] at this
        have hfz : wr.frozen? ⟨g, k * 35 + 33, none⟩ = false := by
          rcases oI.cases with ⟨h, _⟩ | ⟨g', _, h, _, _, hb, _⟩
          · cases h
          · injection h with h; injection h with h; subst h; exact hb.frozen _
        have e1 : wr.cell? ⟨g1, 1, none⟩ = some (.slice (some ⟨g, 0, none⟩) t.ins.length c1) := (h1.cell 1).trans rfl
        have lg : g < wr.heap.size := World.block_lt_of_cell? wr ⟨g, _, none⟩ hc33
        have HX := Lib.hid (And.intro hx hxl)
        have lx : x.key.length ≤ 1099511627776 := by have := txI_in_le t k x hx; rw [inB_length x hxl] at this; have := hf.b; omega
        have j0 : (0 : Int) ≤ (k : Int) := by omega
        have j1 : (k : Int) < (t.ins.length : Int) := by omega
        clear hcc h33 hx hxl
        have bwd := bx.drew
        have h1d := h1.drew
        have hkd : Rd wr.drew wr.drew.heap.size 1 K x.key.length (ub x.key) := hkey.drew
        go_wp2_with fail
        go_region_with (go_at_call 95; refine (clone_calls K x.key.length kc x.key _ hkd lx).mono ?_; rintro e wc ⟨K', k', rfl, oK, bK⟩
                        have hc' : wc.cell? ⟨g, k * 35 + 33, none⟩ = some (.slice K x.key.length kc) := (bK.cell (p := ⟨g, _, none⟩) lg).trans hc33
                        have hf' : wc.frozen? ⟨g, k * 35 + 33, none⟩ = false := (bK.frozen (p := ⟨g, _, none⟩) lg).trans hfz
                        have e1' : wc.cell? ⟨g1, 1, none⟩ = some (.slice (some ⟨g, 0, none⟩) t.ins.length c1) := (bK.cell (p := ⟨g1, _, none⟩) h1d.lt).trans e1)
        all_goals
          go_wp2_with fail
          go_roundw
          case rel =>
            have bwc := bwd.trans (bK.mono bwd.size)
            have hg := grown_set (World.grownBy.refl wc (some g)) (k * 35 + 33) (.slice K' x.key.length k')
            have oIc := oI.drew.same bK
            have h1c := h1d.same bK
            have h2c := h2.drew.same bK
            obtain ⟨cur, hbg, hbk⟩ : ∃ cur, w.heap.size ≤ g ∧ Bk wc g 57 cur := by
              rcases oIc.cases with ⟨h, _⟩ | ⟨g', cur, h, hb, _, hbk, _⟩
              · cases h
              · injection h with h; injection h with h; subst h; exact ⟨cur, hb, hbk⟩
            have nb : ∀ {g' ty : Nat} {cc : Array Value}, Bk wc g' ty cc → 57 ≠ ty → some g' ≠ some g := fun hb hne e => oIc.ne_bk hb hne e
            refine ⟨k + 1, cs.set (k * 35 + 33) (.slice K' x.key.length k'), by omega, by go_num, h1c.grown hg (nb h1c (by decide)), h2c.grown hg (nb h2c (by decide)), oIc.set _ _ (by omega), ?_, (oO.drew.same bK).grown_bk hbk hg (by decide), bwc.trans (grown_below hg hbg bwc.size)⟩
            have hic : InCells wc wc.heap.size cs t.ins := iI.below ((Below.drew (Below.refl _ _)).trans bK) bK.size
            have := hic.set (K' := K') (c' := k') HX.out.1 hc' oK.rd
            simpa [World.setCell] using this
          case measure => simp [intOf]; omega
      · obtain rfl : k = t.ins.length := by omega
        go_wp2_with (first
          | (refine wp_load (o := ⟨some 31, _, _, _, _, _⟩) (cs := txC t A1 c1 A2 c2) rfl _ _ rfl agTx rfl rfl (Bk.all h1) ?_)
          | (refine wp_store_all (cs := txC t A1 c1 A2 c2) rfl _ _ _ rfl agTx rfl rfl h2 rfl rfl (txC_one _ _ _ _ _) ?_; intro wy h8 h9))
        have bwy := bx.trans (grown_below h9 (by omega) bx.size)
        refine ret_row rfl rfl agTx rfl h8 rfl ⟨txC t A1 c1 A2 c2, rfl, ⟨A1, c1, A2, c2, rfl, ?_, ?_⟩, bwy⟩
        · have o1 := (oI.grown_bk h2 h9 (by decide)).rd
          have : InCells wy wy.heap.size cs t.ins := ⟨iI.1, iI.2.1, fun j x hx => by
            obtain ⟨q1, K, kc, q2, q3⟩ := iI.2.2 j x hx
            exact ⟨q1, K, kc, q2, (q3.grown_bk h2 (fun v hv z => by simp [txC] at hv; rcases hv with rfl | rfl | rfl | rfl <;> simp) h9).more h9.size⟩⟩
          exact this.ins o1
        · exact HO.out.outs (oO.grown_bk h2 h9 (by decide)).rd
end Go.Proofs.YtjfeehoflahblaaDoor
