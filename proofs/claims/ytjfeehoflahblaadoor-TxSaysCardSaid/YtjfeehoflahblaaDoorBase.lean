/- Small words on memory that the walks of this seat share: a slice that reads as a list of cells, a slice of the call's own, append from any source. Plain lemmas over any program; no conditions. -/
import Derived.WalkKit
import Derived.WalkSpells
import Derived.Maps.AppendAt
import Derived.KernelRfl
import Derived.Deep.Draws
namespace Go.Proofs.YtjfeehoflahblaaDoor
open Go.RowKit

/-- The slice '.slice A n c' reads, in w, as the cells xs (n elements of sz cells each), all below block B. -/
def Rd (w : World) (B sz : Nat) (A : Option Addr) (n : Nat) (xs : List Value) : Prop :=
  xs.length = n * sz ∧ ∀ j u, xs[j]? = some u → ∃ b o, A = some ⟨b, o, none⟩ ∧ b < B ∧ w.cell? ⟨b, o + j, none⟩ = some u

/-- Block g is just these cells, of element type t, none of them frozen. -/
def Bk (w : World) (g : Nat) (t : TypeId) (cs : Array Value) : Prop := w.heap[g]? = some (.cells cs t (0, 0))

/-- The slice '.slice A n c' owns its row (it begins it), from block base on. -/
def Ow (w : World) (base e sz : Nat) (A : Option Addr) (n c : Nat) (xs : List Value) : Prop := w.ownsRow base e sz (.slice A n c) n xs

theorem cell_add (w : World) (a : Addr) (j : Nat) {u : Value} (h : w.cell? (a.add j) = some u) (hs : a.spot = none) : w.cell? ⟨a.block, a.off + j, none⟩ = some u := by
  obtain ⟨b, o, s⟩ := a
  simp only at hs
  subst hs
  unfold Addr.add at h
  by_cases hj : j = 0
  · subst hj; simpa using h
  · simpa [hj] using h

theorem spot_none {w : World} {a : Addr} {u : Value} (h : w.cell? a = some u) : a.spot = none := by
  unfold World.cell? at h
  split at h
  · by_cases hs : a.spot.isSome = true
    · rw [if_pos hs] at h; cases h
    · simpa using hs
  · cases h

section
variable {w w' : World} {B B' sz n c : Nat} {A : Option Addr} {xs : List Value}
theorem Rd.nil_ (w : World) (B sz : Nat) (A : Option Addr) : Rd w B sz A 0 [] := ⟨by simp, fun j u h => by simp at h⟩
theorem Rd.keep (h : Rd w B sz A n xs) (hk : ∀ b o, b < B → w'.cell? ⟨b, o, none⟩ = w.cell? ⟨b, o, none⟩) : Rd w' B sz A n xs :=
  ⟨h.1, fun j u hu => by obtain ⟨b, o, e, hb, hc⟩ := h.2 j u hu; exact ⟨b, o, e, hb, (hk b _ hb).trans hc⟩⟩
theorem Rd.more (h : Rd w B sz A n xs) (hB : B ≤ B') : Rd w B' sz A n xs :=
  ⟨h.1, fun j u hu => by obtain ⟨b, o, e, hb, hc⟩ := h.2 j u hu; exact ⟨b, o, e, by omega, hc⟩⟩
theorem Rd.below (h : Rd w B sz A n xs) (hb : Below B w w') : Rd w' B sz A n xs := h.keep fun b o hlt => hb.cell (p := ⟨b, o, none⟩) hlt
theorem Rd.drewN (h : Rd w B sz A n xs) (k : Nat) : Rd (w.drewN k) B sz A n xs := h
theorem Rd.drew (h : Rd w B sz A n xs) : Rd w.drew B sz A n xs := h
theorem Rd.alloc (h : Rd w B sz A n xs) (hB : B ≤ w.heap.size) (ob : Obj) : Rd (w.alloc ob) B sz A n xs := h.below ((Below.refl B w).alloc hB ob)
theorem Rd.at_ (h : Rd w B 1 A n xs) {k : Nat} (hk : k < n) : ∃ b o u, A = some ⟨b, o, none⟩ ∧ b < B ∧ xs[k]? = some u ∧ w.cell? ⟨b, o + k, none⟩ = some u := by
  have hl : k < xs.length := by have := h.1; omega
  obtain ⟨b, o, e, hb, hc⟩ := h.2 k _ (List.getElem?_eq_getElem hl)
  exact ⟨b, o, _, e, hb, List.getElem?_eq_getElem hl, hc⟩
/-- Where there is a cell the address is known. -/
theorem Rd.addr (h : Rd w B sz A n xs) (hn : 0 < n) (hs : 0 < sz) : ∃ b o, A = some ⟨b, o, none⟩ ∧ b < B := by
  have hl : 0 < xs.length := by rw [h.1]; exact Nat.mul_pos hn hs
  obtain ⟨b, o, e, hb, _⟩ := h.2 0 _ (List.getElem?_eq_getElem hl)
  exact ⟨b, o, e, hb⟩
theorem Rd.cells {b o : Nat} (h : Rd w B sz (some ⟨b, o, none⟩) n xs) : ∀ j u, xs[j]? = some u → w.cell? ⟨b, o + j, none⟩ = some u := fun j u hu => by
  obtain ⟨b', o', e, _, hc⟩ := h.2 j u hu
  injection e with e
  injection e with e1 e2
  subst e1; subst e2
  exact hc
theorem Rd.drop_ {b o : Nat} (h : Rd w B sz (some ⟨b, o, none⟩) n xs) (k : Nat) : Rd w B sz (some ⟨b, o + k * sz, none⟩) (n - k) (xs.drop (k * sz)) := by
  refine ⟨by rw [List.length_drop, h.1, Nat.sub_mul], fun j u hu => ?_⟩
  rw [List.getElem?_drop] at hu
  obtain ⟨b', o', e, hb, hc⟩ := h.2 _ u hu
  injection e with e
  injection e with e1 e2
  subst e1; subst e2
  exact ⟨b, o + k * sz, rfl, hb, by rw [Nat.add_assoc]; exact hc⟩
theorem Rd.take_ (h : Rd w B sz A n xs) {k : Nat} (hk : k ≤ n) : Rd w B sz A k (xs.take (k * sz)) := by
  refine ⟨by rw [List.length_take, h.1]; exact Nat.min_eq_left (Nat.mul_le_mul_right _ hk), fun j u hu => ?_⟩
  have hj : j < k * sz := by
    rcases Nat.lt_or_ge j (k * sz) with hlt | hge
    · exact hlt
    · rw [List.getElem?_eq_none (by rw [List.length_take]; omega)] at hu; cases hu
  rw [List.getElem?_take_of_lt hj] at hu
  exact h.2 j u hu
theorem Rd.of_cells {b o : Nat} (hl : xs.length = n * sz) (hb : b < B) (hc : ∀ j u, xs[j]? = some u → w.cell? ⟨b, o + j, none⟩ = some u) : Rd w B sz (some ⟨b, o, none⟩) n xs :=
  ⟨hl, fun j u hu => ⟨b, o, rfl, hb, hc j u hu⟩⟩
/-- A row that the walk has just laid ('[]T{..}', the one element of an append). -/
theorem Rd.new (w : World) (cs : Array Value) (e n sz : Nat) (hl : cs.size = n * sz) : Rd (w.alloc (.cells cs e)) (w.heap.size + 1) sz (some ⟨w.heap.size, 0, none⟩) n cs.toList :=
  Rd.of_cells (by simpa using hl) (by omega) fun j u hu => by
    have := heap_alloc_new w (.cells cs e)
    simp only [World.cell?, this]
    simpa using hu
end

section
variable {w w' : World} {g : Nat} {t : TypeId} {cs : Array Value}
theorem Bk.lt (h : Bk w g t cs) : g < w.heap.size := by
  rcases Nat.lt_or_ge g w.heap.size with hlt | hge
  · exact hlt
  · unfold Bk at h; rw [Array.getElem?_eq_none hge] at h; cases h
theorem Bk.cell (h : Bk w g t cs) (i : Nat) : w.cell? ⟨g, i, none⟩ = cs[i]? := by simp [World.cell?, show w.heap[g]? = _ from h]
theorem Bk.frozen (h : Bk w g t cs) (i : Nat) : w.frozen? ⟨g, i, none⟩ = false := by simp [World.frozen?, show w.heap[g]? = _ from h]
theorem Bk.new (w : World) (t : TypeId) (cs : Array Value) : Bk (w.alloc (.cells cs t)) w.heap.size t cs := heap_alloc_new w _
theorem Bk.drewN (h : Bk w g t cs) (k : Nat) : Bk (w.drewN k) g t cs := h
theorem Bk.drew (h : Bk w g t cs) : Bk w.drew g t cs := h
theorem Bk.alloc (h : Bk w g t cs) (o : Obj) : Bk (w.alloc o) g t cs := (Below.heap_alloc w o g h.lt).trans h
theorem Bk.far (h : Bk w g t cs) {p : Addr} (hp : g ≠ p.block) (u : Value) : Bk (w.setCell p u) g t cs := (Below.heap_setCell w p u g hp).trans h
theorem Bk.below {B : Nat} (h : Bk w g t cs) (hb : Below B w w') (hg : g < B) : Bk w' g t cs := (hb.block g hg).trans h
theorem Bk.same (h : Bk w g t cs) (hb : Below w.heap.size w w') : Bk w' g t cs := h.below hb h.lt
theorem Bk.grown {row : Option Nat} (h : Bk w g t cs) (hb : w.grownBy w' row) (hg : some g ≠ row) : Bk w' g t cs := (hb.block g h.lt hg).trans h
theorem Bk.set (h : Bk w g t cs) (i : Nat) (u : Value) : Bk (w.setCell ⟨g, i, none⟩ u) g t (cs.setIfInBounds i u) := by
  unfold Bk at h ⊢
  simp [World.setCell, Array.getElem?_modify, h]
/-- Some cells of a block in a row. -/
theorem Bk.part (h : Bk w g t cs) (o : Nat) (l : List Value) (hl : ∀ j u, l[j]? = some u → cs[o + j]? = some u) : ∀ j u, l[j]? = some u → w.cell? ⟨g, o + j, none⟩ = some u := fun j u hu => (h.cell _).trans (hl j u hu)
theorem Bk.part_app {pre l post : List Value} (h : Bk w g t (pre ++ (l ++ post)).toArray) : ∀ j u, l[j]? = some u → w.cell? ⟨g, pre.length + j, none⟩ = some u := h.part _ _ fun j u hu => by
  have hj : j < l.length := by
    rcases Nat.lt_or_ge j l.length with hlt | hge
    · exact hlt
    · rw [List.getElem?_eq_none hge] at hu; cases hu
  simp only [List.getElem?_toArray]
  rw [List.getElem?_append_right (by omega), Nat.add_sub_cancel_left, List.getElem?_append_left hj]
  exact hu
theorem Bk.rd (h : Bk w g t cs) {n sz : Nat} (hl : cs.size = n * sz) : Rd w w.heap.size sz (some ⟨g, 0, none⟩) n cs.toList :=
  Rd.of_cells (by simpa using hl) h.lt fun j u hu => by rw [Nat.zero_add, h.cell]; simpa using hu
end

section
variable {w w' : World} {base e sz n c : Nat} {A : Option Addr} {xs : List Value}
theorem Ow.nil_ (w : World) (base e sz : Nat) : Ow w base e sz none 0 0 [] := World.ownsRow_nil w base e sz
theorem Ow.len (h : Ow w base e sz A n c xs) : xs.length = n * sz := h.1
theorem Ow.cases (h : Ow w base e sz A n c xs) : (A = none ∧ n = 0 ∧ c = 0 ∧ xs = []) ∨
    ∃ g cur, A = some ⟨g, 0, none⟩ ∧ base ≤ g ∧ g < w.heap.size ∧ Bk w g e cur ∧ n ≤ c ∧ c ≤ maxLen ∧ cur.size = c * sz ∧ cur.toList.take (n * sz) = xs := by
  rcases h.2 with ⟨h0, hn⟩ | ⟨g, cap, cur, hv, hb, hh, hnc, hcm, hcs, htk⟩
  · injection h0 with h1 h2 h3
    refine .inl ⟨h1, h2, h3, ?_⟩
    have := h.1
    exact List.eq_nil_of_length_eq_zero (by rw [this, hn]; simp)
  · injection hv with h1 h2 h3
    subst h3
    exact .inr ⟨g, cur, h1, hb, Bk.lt (cs := cur) hh, hh, hnc, hcm, hcs, htk⟩
theorem Ow.rd (h : Ow w base e sz A n c xs) : Rd w w.heap.size sz A n xs := by
  rcases h.cases with ⟨rfl, rfl, rfl, rfl⟩ | ⟨g, cur, rfl, _, hlt, hbk, hnc, _, hcs, htk⟩
  · exact Rd.nil_ _ _ _ _
  · refine Rd.of_cells h.1 hlt fun j u hu => ?_
    rw [Nat.zero_add, hbk.cell]
    have hj : j < n * sz := by
      rcases Nat.lt_or_ge j (n * sz) with hl | hge
      · exact hl
      · rw [List.getElem?_eq_none (by rw [h.1]; exact hge)] at hu; cases hu
    rw [← htk, List.getElem?_take_of_lt hj] at hu
    simpa using hu
theorem Ow.le (h : Ow w base e sz A n c xs) : n ≤ c ∧ c ≤ maxLen := by
  rcases h.cases with ⟨_, rfl, rfl, _⟩ | ⟨_, _, _, _, _, _, h1, h2, _⟩
  · exact ⟨Nat.le_refl _, by simp [maxLen]⟩
  · exact ⟨h1, h2⟩
theorem Ow.keep (h : Ow w base e sz A n c xs) (hk : ∀ g, A = some ⟨g, 0, none⟩ → g < w.heap.size → w'.heap[g]? = w.heap[g]?) : Ow w' base e sz A n c xs := by
  refine ⟨h.1, ?_⟩
  rcases h.2 with h0 | ⟨g, cap, cur, hv, hb, hh, hrest⟩
  · exact .inl h0
  · refine .inr ⟨g, cap, cur, hv, hb, ?_, hrest⟩
    have hA : A = some ⟨g, 0, none⟩ := by injection hv
    rw [hk g hA (Bk.lt (cs := cur) hh)]
    exact hh
theorem Ow.same (h : Ow w base e sz A n c xs) (hb : Below w.heap.size w w') : Ow w' base e sz A n c xs := h.keep fun g _ hg => hb.block g hg
theorem Ow.alloc (h : Ow w base e sz A n c xs) (o : Obj) : Ow (w.alloc o) base e sz A n c xs := h.keep fun g _ hg => Below.heap_alloc w o g hg
theorem Ow.drew (h : Ow w base e sz A n c xs) : Ow w.drew base e sz A n c xs := h
theorem Ow.drewN (h : Ow w base e sz A n c xs) (k : Nat) : Ow (w.drewN k) base e sz A n c xs := h
theorem Ow.down (h : Ow w base e sz A n c xs) {base' : Nat} (hb : base' ≤ base) : Ow w base' e sz A n c xs := by
  refine ⟨h.1, ?_⟩
  rcases h.2 with h0 | ⟨g, cap, cur, hv, hbg, hrest⟩
  · exact .inl h0
  · exact .inr ⟨g, cap, cur, hv, by omega, hrest⟩
theorem Ow.of_bk {g : Nat} {cur : Array Value} (h : Bk w g e cur) (hb : base ≤ g) (hn : n ≤ c) (hc : c ≤ maxLen) (hs : cur.size = c * sz) : Ow w base e sz (some ⟨g, 0, none⟩) n c (cur.toList.take (n * sz)) :=
  ⟨by rw [List.length_take]; simp only [Array.length_toList, hs]; exact Nat.min_eq_left (Nat.mul_le_mul_right _ hn), .inr ⟨g, c, cur, rfl, hb, h, hn, hc, hs, rfl⟩⟩
/-- What '[]T{}' lays. -/
theorem Ow.new0 (w : World) (e sz : Nat) : Ow (w.alloc (.cells #[] e)) w.heap.size e sz (some ⟨w.heap.size, 0, none⟩) 0 0 [] := by
  have h := Ow.of_bk (w := w.alloc (.cells #[] e)) (base := w.heap.size) (e := e) (sz := sz) (n := 0) (c := 0) (Bk.new w e #[]) (Nat.le_refl _) (Nat.le_refl _) (by simp) (by simp)
  simpa using h
/-- A row of another element type is another block. -/
theorem Ow.ne_bk {g t : Nat} {cs : Array Value} (h : Ow w base e sz A n c xs) (hg : Bk w g t cs) (hne : e ≠ t) : some g ≠ (Value.slice A n c).ownBlock := by
  rcases h.cases with ⟨rfl, _⟩ | ⟨g', cur, rfl, _, _, hbk, _⟩
  · simp [Value.ownBlock]
  · intro hq
    have : g = g' := by simpa [Value.ownBlock] using hq
    subst this
    unfold Bk at hbk hg
    rw [hbk] at hg
    injection hg with hg
    injection hg with _ ht
    exact hne ht
theorem Bk.app {g t : Nat} {cs : Array Value} (hg : Bk w g t cs) (h : Ow w base e sz A n c xs) (hgr : w.grownBy w' (Value.slice A n c).ownBlock) (hne : e ≠ t) : Bk w' g t cs := hg.grown hgr (h.ne_bk hg hne)
theorem below_app (h : Ow w base e sz A n c xs) (hgr : w.grownBy w' (Value.slice A n c).ownBlock) (hB : base ≤ w.heap.size) : Below base w w' :=
  (Below.refl _ _).grown hgr hB fun k hk => (World.ownsRow.lt h k hk).1
end

/-- Another block's cells stay. -/
theorem grown_cell {w w' : World} {row : Option Nat} (h : w.grownBy w' row) {b o : Nat} {v : Value} (hne : ¬ some b = row) (hc : w.cell? ⟨b, o, none⟩ = some v) : w'.cell? ⟨b, o, none⟩ = some v :=
  (World.cell?_of_block (a := ⟨b, o, none⟩) (h.block b (World.block_lt_of_cell? w ⟨b, o, none⟩ hc) hne)).trans hc
/-- A store into another block. -/
theorem set_cell {w : World} {b o g k : Nat} {u v : Value} (hne : ¬ b = g) (hc : w.cell? ⟨b, o, none⟩ = some v) : (w.setCell ⟨g, k, none⟩ u).drew.cell? ⟨b, o, none⟩ = some v :=
  (World.cell?_of_block (w := w) (w' := w.setCell ⟨g, k, none⟩ u) (a := ⟨b, o, none⟩) (Below.heap_setCell w ⟨g, k, none⟩ u b hne)).trans hc
/-- A store into another cell of the block. -/
theorem set_cell' {w : World} {o g k : Nat} {u v : Value} (hne : ¬ o = k) (hc : w.cell? ⟨g, o, none⟩ = some v) : (w.setCell ⟨g, k, none⟩ u).drew.cell? ⟨g, o, none⟩ = some v :=
  (World.cell?_setCell_other w ⟨g, k, none⟩ ⟨g, o, none⟩ u (fun e => hne (by injection e with _ e; omega))).trans hc
theorem bl_drewN {B : Nat} {a w : World} (h : Below B a w) (n : Nat) : Below B a (w.drewN n) := h.trans ⟨rfl, rfl, rfl, Nat.le_refl _, fun _ _ => rfl⟩
/-- What is owned elsewhere stays. -/
theorem grown_below {w w' : World} {g B : Nat} (h : w.grownBy w' (some g)) (hB : B ≤ g) (hs : B ≤ w.heap.size) : Below B w w' :=
  (Below.refl _ _).grown h hs fun k hk => by injection hk with hk; exact hk ▸ hB

theorem Rd.grown {w w' : World} {B sz n : Nat} {A : Option Addr} {xs : List Value} (h : Rd w B sz A n xs) {row : Option Nat} (hg : w.grownBy w' row) (hB : ∀ g, row = some g → B ≤ g) : Rd w' B sz A n xs :=
  ⟨h.1, fun j u hu => by
    obtain ⟨b, o, e, hb, hc⟩ := h.2 j u hu
    exact ⟨b, o, e, hb, grown_cell hg (fun hq => by have := hB b hq.symm; omega) hc⟩⟩
theorem grown_trans {w w1 w2 : World} {row : Option Nat} (h : w.grownBy w1 row) (k : w1.grownBy w2 row) : w.grownBy w2 row :=
  ⟨k.os.trans h.os, k.tape.trans h.tape, k.output.trans h.output, Nat.le_trans h.size k.size, fun i hi hne => (k.block i (Nat.lt_of_lt_of_le hi h.size) hne).trans (h.block i hi hne)⟩
theorem grown_of {w w' : World} (h : Below w.heap.size w w') (row : Option Nat) : w.grownBy w' row := ⟨h.os, h.tape, h.output, h.size, fun k hk _ => h.block k hk⟩
/-- Writes to what is new are none. -/
theorem grown_new {w w1 w2 : World} {row : Option Nat} {g : Nat} (h : w.grownBy w1 row) (k : w1.grownBy w2 (some g)) (hg : w.heap.size ≤ g) : w.grownBy w2 row :=
  ⟨k.os.trans h.os, k.tape.trans h.tape, k.output.trans h.output, Nat.le_trans h.size k.size, fun i hi hne => (k.block i (Nat.lt_of_lt_of_le hi h.size) (fun e => by injection e with e; omega)).trans (h.block i hi hne)⟩
theorem grown_drew {w w1 : World} {row : Option Nat} (h : w.grownBy w1 row) : w.grownBy w1.drew row := ⟨h.os, h.tape, h.output, h.size, h.block⟩

/-- What the walk must know of an element type. -/
def El (P : Program) (t e sz bytes : Nat) : Prop :=
  P.underlying t = some (.slice e) ∧ ∃ i z, P.info? e = some i ∧ i.zero = some z ∧ i.size = sz ∧ i.bytes = bytes ∧ z.cells.size = sz ∧ 0 < sz

theorem El.mk {P : Program} {t e sz bytes : Nat} {z : Value} (h1 : P.underlying t = some (.slice e)) (h2 : (P.info? e).map (fun i => (i.zero, i.size, i.bytes)) = some (some z, sz, bytes)) (h3 : z.cells.size = sz) (h4 : 0 < sz) : El P t e sz bytes := by
  obtain ⟨i, a, b, c, d⟩ := info_parts h2
  exact ⟨h1, i, z, a, b, c, d, h3, h4⟩

/-- 'v = append(v, xs...)': v of the call's own, xs whatever: the operation itself. -/
theorem op_app {P : Program} {w : World} {o : Oper} {a : Act} {K : Act → World → Prop} {Q : Exit → Act → World → Prop} (s x : Operand) (t : TypeId)
    (ho : o.op = .call { callee := .builtin .append, args := #[s, x], argTypes := #[t, t] }) {base e sz bytes : Nat} (hE : El P t e sz bytes)
    {A : Option Addr} {n c : Nat} {xs : List Value} (hs : a.eval s = .slice A n c) (hown : Ow w base e sz A n c xs)
    {B : Nat} {A2 : Option Addr} {m c2 : Nat} {news : List Value} (hx : a.eval x = .slice A2 m c2) (hr : Rd w B sz A2 m news) (h1 : ∀ u ∈ news, u.oneCell' = true)
    (h63 : n + m ≤ maxLen) (hbytes : (n + m) * bytes ≤ 140737488355328) (hbase : base ≤ w.heap.size)
    (h : ∀ A' c' w', Ow w' base e sz A' (n + m) c' (xs ++ news) → w.grownBy w' (Value.slice A n c).ownBlock → Below base w w' → K (a.put o.dst (.slice A' (n + m) c')) w') : o.wp P a w K Q := by
  obtain ⟨ht, i, z, hi, hz, hsize, hby, hzs, hsz⟩ := hE
  have fin : ∀ v' w', (Builtin.append_ #[t, t] o.type #[.slice A n c, .slice A2 m c2]).run P w = .ok v' w' → w'.ownsRow base e sz v' (n + m) (xs ++ news) → w.grownBy w' (Value.slice A n c).ownBlock → o.wp P a w K Q := by
    intro v' w' hrun h2 h3
    unfold Oper.wp execOp
    simp only [ho, resolve, invoke, builtin, Sem.run_bind, Sem.run_pure, Result.andThen_ok, List.map_toArray, List.map_cons, List.map_nil, hs, hx, hrun]
    have hv : ∃ A' c', v' = .slice A' (n + m) c' := by
      rcases h2.2 with ⟨h0, hn⟩ | ⟨g, cap, cur, hv, _⟩
      · exact ⟨none, 0, by rw [h0, hn]⟩
      · exact ⟨_, _, hv⟩
    obtain ⟨A', c', rfl⟩ := hv
    exact h A' c' w' h2 h3 (below_app hown h3 hbase)
  have hown0 : w.ownsRow base e sz (.slice A n c) n xs := hown
  by_cases hm : m = 0
  · subst hm
    have hn : news = [] := List.eq_nil_of_length_eq_zero (by simpa using hr.1)
    subst hn
    refine fin (.slice A n c) w ?_ (by simpa using hown0) (World.grownBy.refl w _)
    have hle := hown.le.1
    rcases hown.cases with ⟨rfl, rfl, rfl, _⟩ | ⟨g, cur, rfl, _, _, _, _⟩ <;> rcases A2 with _ | ad <;>
      simp [Builtin.append_, run_underlying ht, sizeOf, typeInfo, hi, Builtin.lenOf, Builtin.firstCells, storeCells, loadCells, loadCellsFrom, hle]
  · have hnl : 0 < news.length := by rw [hr.1]; exact Nat.mul_pos (by omega) hsz
    obtain ⟨b, off, rfl, hbB, _⟩ := hr.2 0 _ (List.getElem?_eq_getElem hnl)
    have hcells : ∀ j u, news[j]? = some u → w.cell? ((⟨b, off, none⟩ : Addr).add j) = some u := by
      intro j u hu
      have hc := hr.cells j u hu
      unfold Addr.add
      by_cases hj : j = 0
      · subst hj; simpa using hc
      · simpa [hj] using hc
    obtain ⟨v', w', hrun, h2, h3, _⟩ := run_append_own_at (P := P) w base t o.type e i z sz bytes ht hi hz hsize hby hzs hsz (.slice A n c) n xs hown0 ⟨b, off, none⟩ m c2 news hr.1 hcells h1 h63 hbytes hbase
    exact fin v' w' hrun h2 h3

/-- The same in a plain region. -/
theorem wp_app {P : Program} {w : World} {ops : Array Oper} {rest : List Oper} {o : Oper} {a : Act} {Q : Exit → Act → World → Prop} (hgd : o.guard = none) (s x : Operand) (t : TypeId)
    (ho : o.op = .call { callee := .builtin .append, args := #[s, x], argTypes := #[t, t] }) {base e sz bytes : Nat} (hE : El P t e sz bytes)
    {A : Option Addr} {n c : Nat} {xs : List Value} (hs : a.eval s = .slice A n c) (hown : Ow w base e sz A n c xs)
    {B : Nat} {A2 : Option Addr} {m c2 : Nat} {news : List Value} (hx : a.eval x = .slice A2 m c2) (hr : Rd w B sz A2 m news) (h1 : ∀ u ∈ news, u.oneCell' = true)
    (h63 : n + m ≤ maxLen) (hbytes : (n + m) * bytes ≤ 140737488355328) (hbase : base ≤ w.heap.size)
    (h : ∀ A' c' w', Ow w' base e sz A' (n + m) c' (xs ++ news) → w.grownBy w' (Value.slice A n c).ownBlock → Below base w w' → wpList P ops Q rest (a.put o.dst (.slice A' (n + m) c')) w') : wpList P ops Q (o :: rest) a w :=
  wpList_plain hgd fun _ hK => op_app s x t ho hE hs hown hx hr h1 h63 hbytes hbase fun A' c' w' h2 h3 h4 => hK _ _ (h A' c' w' h2 h3 h4)

/-- The same in a region that draws its order. -/
theorem st_app {P : Program} {w : World} {ops : Array Oper} {o : Oper} {a : Act} {K : Act → World → Prop} {Q : Exit → Act → World → Prop} {E : Prop} (hw : Region.wanted o (yielded ops a.tmps) = true) (s x : Operand) (t : TypeId)
    (ho : o.op = .call { callee := .builtin .append, args := #[s, x], argTypes := #[t, t] }) {base e sz bytes : Nat} (hE : El P t e sz bytes)
    {A : Option Addr} {n c : Nat} {xs : List Value} (hs : a.eval s = .slice A n c) (hown : Ow w base e sz A n c xs)
    {B : Nat} {A2 : Option Addr} {m c2 : Nat} {news : List Value} (hx : a.eval x = .slice A2 m c2) (hr : Rd w B sz A2 m news) (h1 : ∀ u ∈ news, u.oneCell' = true)
    (h63 : n + m ≤ maxLen) (hbytes : (n + m) * bytes ≤ 140737488355328) (hbase : base ≤ w.heap.size)
    (h : ∀ A' c' w', Ow w' base e sz A' (n + m) c' (xs ++ news) → w.grownBy w' (Value.slice A n c).ownBlock → Below base w w' → K (a.put o.dst (.slice A' (n + m) c')) w') :
    if Region.wanted o (yielded ops a.tmps) = true then o.wp P a w K Q else E := by
  rw [if_pos hw]
  exact op_app s x t ho hE hs hown hx hr h1 h63 hbytes hbase h

/-- 'make([]T, 0, n)'. -/
theorem wp_make0 {P : Program} {w : World} {ops : Array Oper} {rest : List Oper} {o : Oper} {a : Act} {Q : Exit → Act → World → Prop} (hg : o.guard = none) (l c : Operand) (t : TypeId) (hop : o.op = Op.makeSlice t l c)
    {e sz bytes : Nat} (hE : El P t e sz bytes) {kl kc : IntKind} {C : Int} (n : Nat) (hl : a.eval l = .int kl 0) (hc : a.eval c = .int kc C) (hC : C = (n : Int)) (b2 : bytes * n ≤ 281474976710656) (b3 : n ≤ maxLen)
    (hK : ∀ w', Ow w' w.heap.size e sz (some ⟨w.heap.size, 0, none⟩) 0 n [] → Below w.heap.size w w' → wpList P ops Q rest (a.put o.dst (.slice (some ⟨w.heap.size, 0, none⟩) 0 n)) w') :
    wpList P ops Q (o :: rest) a w := by
  obtain ⟨ht, i, z, hi, hz, hsize, hby, _, _⟩ := hE
  exact wpList_make_own w hg l c t hop w.heap.size e i z sz ht hi hz hsize kl kc C n hl hc hC (by rw [hby]; exact b2) b3 (Nat.le_refl _) fun w' h1 h2 => hK w' h1 ((Below.refl _ _).grown h2 (Nat.le_refl _) (by simp))

theorem oneCell_ints (k : IntKind) (l : List Int) : ∀ u ∈ l.map (Value.int k), u.oneCell' = true := by
  intro u hu
  obtain ⟨x, _, rfl⟩ := List.mem_map.1 hu
  rfl
end Go.Proofs.YtjfeehoflahblaaDoor
