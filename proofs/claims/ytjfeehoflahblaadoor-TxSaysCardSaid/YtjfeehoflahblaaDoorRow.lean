/- Whole rows (arrays, structs) loaded, stored, laid, handed back: laws over any program. No conditions. -/
import Derived.Test.YtjfeehoflahblaaDoorBase
namespace Go.Proofs.YtjfeehoflahblaaDoor
open Go.RowKit

/-- t is a struct or an array of n cells. -/
def isRow : TypeDesc → Bool
  | .struct _ | .array _ _ => true
  | _ => false
def Ag (P : Program) (t n : Nat) : Prop := ∃ d, P.underlying t = some d ∧ isRow d = true ∧ (P.info? t).map (·.size) = some n

theorem Ag.mk {P : Program} {t n : Nat} {d : TypeDesc} (h1 : P.underlying t = some d) (h2 : isRow d = true) (h3 : (P.info? t).map (·.size) = some n) : Ag P t n := ⟨d, h1, h2, h3⟩

theorem addr_add (b o j : Nat) : (⟨b, o, none⟩ : Addr).add j = ⟨b, o + j, none⟩ := by
  unfold Addr.add
  by_cases hj : j = 0
  · subst hj; simp
  · simp [hj]

section
variable {P : Program}
theorem run_load_at {t n : Nat} (hA : Ag P t n) {w : World} {b o : Nat} {cs : List Value} (hl : cs.length = n) (hc : ∀ j u, cs[j]? = some u → w.cell? ⟨b, o + j, none⟩ = some u) :
    (loadVar t ⟨b, o, none⟩).run P w = .ok (.agg cs.toArray) w := by
  obtain ⟨d, hu, hd, hi⟩ := hA
  have hl' : (loadCells ⟨b, o, none⟩ cs.length).run P w = .ok cs.toArray w :=
    run_loadCells_list (P := P) w ⟨b, o, none⟩ cs (fun j v hv => by rw [addr_add]; exact hc j v hv)
  cases hq : P.info? t with
  | none => simp [hq] at hi
  | some i =>
    have hs : i.size = cs.length := by rw [hl]; simpa [hq] using hi
    have hagg : (isAgg t).run P w = .ok true w := by
      unfold isAgg
      rw [Sem.run_bind, run_underlying hu w]
      cases d <;> simp_all [isRow]
    simp [loadVar, Sem.run_bind, hagg, sizeOf, typeInfo, hq, hs, hl']

/-- A row with some of its cells written anew. -/
def splice (old : Array Value) (o : Nat) (cs : List Value) : Array Value := cs.foldl (init := (old, o)) (fun p v => (p.1.setIfInBounds p.2 v, p.2 + 1)) |>.1

theorem splice_nil (old : Array Value) (o : Nat) : splice old o [] = old := rfl
theorem splice_cons (old : Array Value) (o : Nat) (v : Value) (cs : List Value) : splice old o (v :: cs) = splice (old.setIfInBounds o v) (o + 1) cs := rfl
theorem splice_size (cs : List Value) : ∀ (old : Array Value) (o : Nat), (splice old o cs).size = old.size := by
  induction cs with
  | nil => intro old o; rfl
  | cons v cs ih => intro old o; rw [splice_cons, ih]; simp
theorem splice_get (cs : List Value) : ∀ (old : Array Value) (o j : Nat), o + cs.length ≤ old.size → (splice old o cs)[j]? = if o ≤ j ∧ j < o + cs.length then cs[j - o]? else old[j]? := by
  induction cs with
  | nil => intro old o j _; rw [splice_nil, if_neg (by simp)]
  | cons v cs ih =>
    intro old o j h
    rw [List.length_cons] at h
    rw [splice_cons, ih _ _ _ (by simp; omega), List.length_cons]
    by_cases h1 : o + 1 ≤ j ∧ j < o + 1 + cs.length
    · rw [if_pos h1, if_pos (by omega), show j - o = (j - (o + 1)) + 1 by omega, List.getElem?_cons_succ]
    · rw [if_neg h1]
      by_cases h2 : j = o
      · subst h2
        rw [if_pos (by omega)]
        have hj : j < old.size := by omega
        simp [hj]
      · rw [if_neg (by omega), Array.getElem?_setIfInBounds_ne (by omega)]
/-- A whole row written anew. -/
theorem splice_all (old : Array Value) (cs : List Value) (h : cs.length = old.size) : splice old 0 cs = cs.toArray := by
  apply Array.ext_getElem?
  intro j
  rw [splice_get _ _ _ _ (by omega)]
  by_cases hj : j < cs.length
  · rw [if_pos (by omega)]; simp
  · rw [if_neg (by omega)]
    rw [Array.getElem?_eq_none (by omega), Array.getElem?_eq_none (by simp; omega)]

theorem run_storeCells_bk {t : Nat} (cs : List Value) : ∀ {w : World} {b o k : Nat} {old : Array Value}, Bk w b t old → o + k + cs.length ≤ old.size → (∀ u ∈ cs, u.oneCell' = true) →
    ∃ w', (storeCells ⟨b, o, none⟩ cs k).run P w = .ok () w' ∧ Bk w' b t (splice old (o + k) cs) ∧ w.grownBy w' (some b) ∧ w'.heap.size = w.heap.size := by
  induction cs with
  | nil => intro w b o k old h _ _; exact ⟨w, rfl, h, World.grownBy.refl _ _, rfl⟩
  | cons v cs ih =>
    intro w b o k old h hs h1
    rw [List.length_cons] at hs
    have hv := h1 v (List.mem_cons_self ..)
    have hcell : w.cell? ⟨b, o + k, none⟩ = some (old[o + k]'(by omega)) := by rw [h.cell]; exact Array.getElem?_eq_getElem (by omega)
    have hfz := h.frozen (o + k)
    obtain ⟨w', hrun, hb', hg', hs'⟩ := ih (w := w.setCell ⟨b, o + k, none⟩ v) (b := b) (o := o) (k := k + 1) (old := old.setIfInBounds (o + k) v) (h.set (o + k) v) (by simp; omega) (fun u hu => h1 u (List.mem_cons_of_mem _ hu))
    refine ⟨w', ?_, ?_, ?_, ?_⟩
    · rw [storeCells, Sem.run_bind, addr_add]
      have : (store ⟨b, o + k, none⟩ v).run P w = .ok () (w.setCell ⟨b, o + k, none⟩ v) := by
        cases v <;> simp_all [store, Sem.run, Value.oneCell']
      rw [this]
      exact hrun
    · rw [splice_cons, Nat.add_assoc]; exact hb'
    · have hsz : (w.setCell ⟨b, o + k, none⟩ v).heap.size = w.heap.size := by simp [World.setCell]
      refine ⟨hg'.os, hg'.tape, hg'.output, by rw [← hsz]; exact hg'.size, fun j hj hne => ?_⟩
      rw [hg'.block j (by rw [hsz]; exact hj) hne]
      exact Below.heap_setCell w _ v j (by intro e; exact hne (by rw [e]))
    · rw [hs']; simp [World.setCell]

theorem run_store_at {ty n t : Nat} (hA : Ag P ty n) {w : World} {b o : Nat} {old : Array Value} {cs : List Value} (h : Bk w b t old) (hl : cs.length = n) (hs : o + n ≤ old.size) (h1 : ∀ u ∈ cs, u.oneCell' = true) :
    ∃ w', (storeVar ty ⟨b, o, none⟩ (.agg cs.toArray)).run P w = .ok () w' ∧ Bk w' b t (splice old o cs) ∧ w.grownBy w' (some b) ∧ w'.heap.size = w.heap.size := by
  obtain ⟨d, hu, hd, hi⟩ := hA
  obtain ⟨w', hrun, hb, hg, hsz⟩ := run_storeCells_bk (P := P) cs (w := w) (b := b) (o := o) (k := 0) h (by omega) h1
  refine ⟨w', ?_, hb, hg, hsz⟩
  cases hq : P.info? ty with
  | none => simp [hq] at hi
  | some i =>
    have hs : i.size = cs.length := by rw [hl]; simpa [hq] using hi
    simp [storeVar, Sem.run_bind, sizeOf, typeInfo, hq, hs, Value.cells, hrun]

section
variable {w : World} {ops : Array Oper} {rest : List Oper} {o : Oper} {a : Act} {K : Act → World → Prop} {Q : Exit → Act → World → Prop} {E : Prop}
theorem op_load (ty : Nat) (x : Operand) (ho : o.op = .load ty x) {n : Nat} (hA : Ag P ty n) {b off : Nat} (hx : a.eval x = .pointer (some ⟨b, off, none⟩)) {cs : List Value} (hl : cs.length = n)
    (hc : ∀ j u, cs[j]? = some u → w.cell? ⟨b, off + j, none⟩ = some u) (h : K (a.put o.dst (.agg cs.toArray)) w) : o.wp P a w K Q := by
  unfold Oper.wp execOp
  simp only [ho, hx, Instr.loadAt, Instr.sureAddr, Sem.run_bind, Sem.run_pure, Result.andThen_ok, run_load_at hA hl hc]
  exact h
theorem op_store (ty : Nat) (x y : Operand) (ho : o.op = .store ty x y) {n : Nat} (hA : Ag P ty n) {b off : Nat} (hx : a.eval x = .pointer (some ⟨b, off, none⟩)) {cs : List Value} (hy : a.eval y = .agg cs.toArray)
    {t : Nat} {old : Array Value} (hb : Bk w b t old) (hl : cs.length = n) (hs : off + n ≤ old.size) (h1 : ∀ u ∈ cs, u.oneCell' = true)
    (h : ∀ w', Bk w' b t (splice old off cs) → w.grownBy w' (some b) → K (a.put o.dst undef) w') : o.wp P a w K Q := by
  obtain ⟨w', hrun, h2, h3, h4⟩ := run_store_at (P := P) hA hb hl hs h1
  unfold Oper.wp execOp
  simp only [ho, hx, hy, Instr.storeAt, Instr.sureAddr, Sem.run_bind, Sem.run_pure, Result.andThen_ok, hrun]
  exact h w' h2 h3
theorem wp_load (hgd : o.guard = none) (ty : Nat) (x : Operand) (ho : o.op = .load ty x) {n : Nat} (hA : Ag P ty n) {b off : Nat} (hx : a.eval x = .pointer (some ⟨b, off, none⟩)) {cs : List Value} (hl : cs.length = n)
    (hc : ∀ j u, cs[j]? = some u → w.cell? ⟨b, off + j, none⟩ = some u) (h : wpList P ops Q rest (a.put o.dst (.agg cs.toArray)) w) : wpList P ops Q (o :: rest) a w :=
  wpList_plain hgd fun _ hK => op_load ty x ho hA hx hl hc (hK _ _ h)
theorem wp_store (hgd : o.guard = none) (ty : Nat) (x y : Operand) (ho : o.op = .store ty x y) {n : Nat} (hA : Ag P ty n) {b off : Nat} (hx : a.eval x = .pointer (some ⟨b, off, none⟩)) {cs : List Value} (hy : a.eval y = .agg cs.toArray)
    {t : Nat} {old : Array Value} (hb : Bk w b t old) (hl : cs.length = n) (hs : off + n ≤ old.size) (h1 : ∀ u ∈ cs, u.oneCell' = true)
    (h : ∀ w', Bk w' b t (splice old off cs) → w.grownBy w' (some b) → wpList P ops Q rest (a.put o.dst undef) w') : wpList P ops Q (o :: rest) a w :=
  wpList_plain hgd fun _ hK => op_store ty x y ho hA hx hy hb hl hs h1 fun w' h2 h3 => hK _ _ (h w' h2 h3)
/-- 'x = row', the whole block of a variable. -/
theorem wp_store_all (hgd : o.guard = none) (ty : Nat) (x y : Operand) (ho : o.op = .store ty x y) {n : Nat} (hA : Ag P ty n) {b : Nat} (hx : a.eval x = .pointer (some ⟨b, 0, none⟩)) {cs : List Value} (hy : a.eval y = .agg cs.toArray)
    {t : Nat} {old : Array Value} (hb : Bk w b t old) (hl : cs.length = n) (hs : old.size = n) (h1 : ∀ u ∈ cs, u.oneCell' = true)
    (h : ∀ w', Bk w' b t cs.toArray → w.grownBy w' (some b) → wpList P ops Q rest (a.put o.dst undef) w') : wpList P ops Q (o :: rest) a w :=
  wp_store hgd ty x y ho hA hx hy hb hl (by omega) h1 fun w' h2 h3 => h w' (by rw [splice_all _ _ (by omega)] at h2; exact h2) h3
theorem st_load (hw : Region.wanted o (yielded ops a.tmps) = true) (ty : Nat) (x : Operand) (ho : o.op = .load ty x) {n : Nat} (hA : Ag P ty n) {b off : Nat} (hx : a.eval x = .pointer (some ⟨b, off, none⟩)) {cs : List Value} (hl : cs.length = n)
    (hc : ∀ j u, cs[j]? = some u → w.cell? ⟨b, off + j, none⟩ = some u) (h : K (a.put o.dst (.agg cs.toArray)) w) : if Region.wanted o (yielded ops a.tmps) = true then o.wp P a w K Q else E := by
  rw [if_pos hw]; exact op_load ty x ho hA hx hl hc h
theorem st_store (hw : Region.wanted o (yielded ops a.tmps) = true) (ty : Nat) (x y : Operand) (ho : o.op = .store ty x y) {n : Nat} (hA : Ag P ty n) {b off : Nat} (hx : a.eval x = .pointer (some ⟨b, off, none⟩)) {cs : List Value} (hy : a.eval y = .agg cs.toArray)
    {t : Nat} {old : Array Value} (hb : Bk w b t old) (hl : cs.length = n) (hs : off + n ≤ old.size) (h1 : ∀ u ∈ cs, u.oneCell' = true)
    (h : ∀ w', Bk w' b t (splice old off cs) → w.grownBy w' (some b) → K (a.put o.dst undef) w') : if Region.wanted o (yielded ops a.tmps) = true then o.wp P a w K Q else E := by
  rw [if_pos hw]; exact op_store ty x y ho hA hx hy hb hl hs h1 h
/-- 'x[i] = v', one cell of a block. -/
theorem op_store1 (ty : Nat) (x y : Operand) (ho : o.op = .store ty x y) (hA : (P.info? ty).map (·.size) = some 1) {b off : Nat} (hx : a.eval x = .pointer (some ⟨b, off, none⟩)) {v : Value} (hy : a.eval y = v)
    {t : Nat} {old : Array Value} (hb : Bk w b t old) (hs : off < old.size) (h1 : v.oneCell' = true)
    (h : ∀ w', Bk w' b t (old.setIfInBounds off v) → w.grownBy w' (some b) → K (a.put o.dst undef) w') : o.wp P a w K Q := by
  have hcell : w.cell? ⟨b, off, none⟩ = some (old[off]'hs) := by rw [hb.cell]; exact Array.getElem?_eq_getElem hs
  have hfz := hb.frozen off
  have hrun : (storeVar ty ⟨b, off, none⟩ v).run P w = .ok () (w.setCell ⟨b, off, none⟩ v) := by
    cases hq : P.info? ty with
    | none => simp [hq] at hA
    | some i =>
      have hs1 : i.size = 1 := by simpa [hq] using hA
      have hadd : (⟨b, off, none⟩ : Addr).add 0 = ⟨b, off, none⟩ := by simp [Addr.add]
      cases v <;> simp_all [storeVar, Sem.run_bind, sizeOf, typeInfo, Value.cells, storeCells, store, Sem.run, Value.oneCell']
  unfold Oper.wp execOp
  simp only [ho, hx, hy, Instr.storeAt, Instr.sureAddr, Sem.run_bind, Sem.run_pure, Result.andThen_ok, hrun]
  have hsz : (w.setCell ⟨b, off, none⟩ v).heap.size = w.heap.size := by simp [World.setCell]
  refine h _ (hb.set off v) ⟨rfl, rfl, rfl, by rw [hsz]; exact Nat.le_refl _, fun j hj hne => ?_⟩
  exact Below.heap_setCell w _ v j (by intro e; exact hne (by rw [e]))
theorem wp_store1 (hgd : o.guard = none) (ty : Nat) (x y : Operand) (ho : o.op = .store ty x y) (hA : (P.info? ty).map (·.size) = some 1) {b off : Nat} (hx : a.eval x = .pointer (some ⟨b, off, none⟩)) {v : Value} (hy : a.eval y = v)
    {t : Nat} {old : Array Value} (hb : Bk w b t old) (hs : off < old.size) (h1 : v.oneCell' = true)
    (h : ∀ w', Bk w' b t (old.setIfInBounds off v) → w.grownBy w' (some b) → wpList P ops Q rest (a.put o.dst undef) w') : wpList P ops Q (o :: rest) a w :=
  wpList_plain hgd fun _ hK => op_store1 ty x y ho hA hx hy hb hs h1 fun w' h2 h3 => hK _ _ (h w' h2 h3)
theorem st_store1 (hw : Region.wanted o (yielded ops a.tmps) = true) (ty : Nat) (x y : Operand) (ho : o.op = .store ty x y) (hA : (P.info? ty).map (·.size) = some 1) {b off : Nat} (hx : a.eval x = .pointer (some ⟨b, off, none⟩)) {v : Value} (hy : a.eval y = v)
    {t : Nat} {old : Array Value} (hb : Bk w b t old) (hs : off < old.size) (h1 : v.oneCell' = true)
    (h : ∀ w', Bk w' b t (old.setIfInBounds off v) → w.grownBy w' (some b) → K (a.put o.dst undef) w') : if Region.wanted o (yielded ops a.tmps) = true then o.wp P a w K Q else E := by
  rw [if_pos hw]; exact op_store1 ty x y ho hA hx hy hb hs h1 h
/-- '[n]T{..}', what it yields. -/
theorem wp_build (hgd : o.guard = none) (ty : Nat) (ps : Array (Nat × Operand)) (_ho : o.op = .build ty ps) (v : Value) (h0 : (execOp a.eval o).run P w = .ok (.value v) w) (h : wpList P ops Q rest (a.put o.dst v) w) : wpList P ops Q (o :: rest) a w := by
  refine wpList_plain hgd fun K hK => ?_
  unfold Oper.wp
  rw [h0]
  exact hK _ _ h
/-- 'var x T': a new block of zero cells. Its number is told by bounds alone. -/
theorem wp_alloc (hgd : o.guard = none) (ty : Nat) (ho : o.op = .alloc ty) {z : Value} (hz : (P.info? ty).map (·.zero) = some (some z))
    (h : ∀ g w', Bk w' g ty z.cells → Below w.heap.size w w' → w.heap.size ≤ g → wpList P ops Q rest (a.put o.dst (.pointer (some ⟨g, 0, none⟩))) w') : wpList P ops Q (o :: rest) a w := by
  refine wpList_plain hgd fun K hK => ?_
  cases hq : P.info? ty with
  | none => simp [hq] at hz
  | some i =>
    have hz' : i.zero = some z := by simpa [hq] using hz
    have hrun : (Instr.alloc ty true (.tuple #[])).run P w = .ok (.pointer (some ⟨w.heap.size, 0, none⟩)) (w.alloc (.cells z.cells ty)) := by
      simp [Instr.alloc, zeroValue, typeInfo, hq, hz', newVar, newRow]
    unfold Oper.wp execOp
    simp only [ho, Sem.run_bind, Sem.run_pure, Result.andThen_ok, hrun]
    exact hK _ _ (h _ _ (Bk.new w ty z.cells) ((Below.refl _ _).alloc (Nat.le_refl _) _) (Nat.le_refl _))
/-- A parameter that is laid into a variable. -/
theorem wp_box (hgd : o.guard = none) (ty : Nat) (x : Operand) (ho : o.op = .box ty x) {v : Value} (hx : a.eval x = v)
    (h : ∀ g w', Bk w' g ty v.cells → Below w.heap.size w w' → w.heap.size ≤ g → wpList P ops Q rest (a.put o.dst (.pointer (some ⟨g, 0, none⟩))) w') : wpList P ops Q (o :: rest) a w := by
  refine wpList_plain hgd fun K hK => ?_
  unfold Oper.wp execOp
  simp only [ho, hx, Sem.run_bind, newVar, newRow, run_newObj_alloc, Sem.run_pure, Result.andThen_ok]
  exact hK _ _ (h _ _ (Bk.new w ty v.cells) ((Below.refl _ _).alloc (Nat.le_refl _) _) (Nat.le_refl _))
/-- '[]T{..}' of values that are known: a new block. -/
theorem wp_slice_lit (hgd : o.guard = none) (ty n : Nat) (ps : Array (Nat × Operand)) (_ho : o.op = .buildSlice ty n ps) (e : Nat) (cs : Array Value)
    (hrun : (execOp a.eval o).run P w = .ok (.value (.slice (some ⟨w.heap.size, 0, none⟩) n n)) (w.alloc (.cells cs e)))
    (h : ∀ g w', Bk w' g e cs → Below w.heap.size w w' → w.heap.size ≤ g → wpList P ops Q rest (a.put o.dst (.slice (some ⟨g, 0, none⟩) n n)) w') : wpList P ops Q (o :: rest) a w := by
  refine wpList_plain hgd fun K hK => ?_
  unfold Oper.wp
  rw [hrun]
  exact hK _ _ (h _ _ (Bk.new w e cs) ((Below.refl _ _).alloc (Nat.le_refl _) _) (Nat.le_refl _))
end
/-- The one result lies in memory, a row. -/
theorem ret_row {fn : Func} {R : Ending → World → Prop} {a : Act} {w : World} {p : Tmp} {ty n : Nat} (hres : fn.results = #[.cell p ty]) (hd : a.defers = []) (hA : Ag P ty n) {g t : Nat} {cs : Array Value} (hp : a.tmps.getD p undef = .pointer (some ⟨g, 0, none⟩))
    (hb : Bk w g t cs) (hn : cs.size = n) (hR : R (.returned (.agg cs)) w) : bodyPost P fn R .ret a w := by
  obtain ⟨d, h1, h2, h3⟩ := hA
  exact ⟨hd, _, results_cell_row hres a.tmps w g t cs (0, 0) d hp hb h1 (by cases d <;> simp_all [isRow]) (by rw [h3, hn]), hR⟩
end
end Go.Proofs.YtjfeehoflahblaaDoor
