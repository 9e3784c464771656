/- The point that is of no transaction: the program's and the reference's; who spends it. Conditions: digests of 32 bytes. -/
import Derived.Test.YtjfeehoflahblaaDoorClone
import Derived.DeepKeys4
import Derived.Deep.RegionHeld3
namespace Go.Proofs.YtjfeehoflahblaaDoor
open Go.RowKit

def zero32 : List Int := List.replicate 32 0
set_option maxRecDepth 100000 in
theorem null_calls (w : World) : Calls Tryd.prog 104 #[] w fun e w' => e = .returned (.agg (pC zero32 4294967295).toArray) ∧ Below w.heap.size w w' := by
  go_enter Tryd.func104, Tryd.ntmps104
  go_wp2_with (first
    | (refine wp_alloc (o := ⟨some 0, _, _, _, _, _⟩) rfl _ rfl (z := .agg (pC zero32 0).toArray) (by kernel_rfl) ?_; intro g w1 h1 h2 h3)
    | (refine wp_build (o := ⟨some 1, _, _, _, _, _⟩) rfl _ _ rfl (.agg (pC zero32 4294967295).toArray) (by kernel_rfl) ?_)
    | (refine wp_store_all (cs := pC zero32 4294967295) rfl _ _ _ rfl agPoint rfl rfl h1 rfl rfl (by decide) ?_; intro w2 h4 h5))
  exact ret_row rfl rfl agPoint rfl h4 rfl ⟨rfl, h2.trans (grown_below h5 h3 h2.size)⟩
set_option maxRecDepth 100000 in
theorem refNull_calls (w : World) : Calls Tryd.prog 78 #[] w fun e w' => e = .returned (.agg (pC zero32 4294967295).toArray) ∧ Below w.heap.size w w' := by
  go_enter Tryd.func78, Tryd.ntmps78
  go_wp2_with (first
    | (refine wp_alloc (o := ⟨some 0, _, _, _, _, _⟩) rfl _ rfl (z := .agg (pC zero32 0).toArray) (by kernel_rfl) ?_; intro g w1 h1 h2 h3)
    | (refine wp_build (o := ⟨some 1, _, _, _, _, _⟩) rfl _ _ rfl (.agg (pC zero32 4294967295).toArray) (by kernel_rfl) ?_)
    | (refine wp_store_all (cs := pC zero32 4294967295) rfl _ _ _ rfl agPoint rfl rfl h1 rfl rfl (by decide) ?_; intro w2 h4 h5))
  exact ret_row rfl rfl agPoint rfl h4 rfl ⟨rfl, h2.trans (grown_below h5 h3 h2.size)⟩

/-! Equality of digests, of points: what the operation answers. -/
theorem wf_u8 {x : Int} (h : 0 ≤ x ∧ x < 256) : (Lit.int .u8 x).wf = true := by
  have h1 : IntKind.u8.min = 0 := by decide
  have h2 : IntKind.u8.max = 255 := by decide
  simp [Lit.wf, h1, h2]; omega
theorem wf_u32 {x : Int} (h : Is32 x) : (Lit.int .u32 x).wf = true := by
  have h0 := h.1
  have h3 := h.2
  have h1 : IntKind.u32.min = 0 := by decide
  have h2 : IntKind.u32.max = 4294967295 := by decide
  simp [Lit.wf, h1, h2]; omega
theorem wf_u64 {x : Int} (h : Is64 x) : (Lit.int .u64 x).wf = true := by
  have h0 := h.1
  have h3 := h.2
  have h1 : IntKind.u64.min = 0 := by decide
  have h2 : IntKind.u64.max = 18446744073709551615 := by decide
  simp [Lit.wf, h1, h2]; omega
theorem mapM_some {α β : Type} {f : α → Option β} {g : α → β} : ∀ (l : List α), (∀ x ∈ l, f x = some (g x)) → l.mapM f = some (l.map g)
  | [], _ => rfl
  | x :: l, h => by
    rw [List.mapM_cons, h x (by simp), mapM_some l (fun y hy => h y (by simp [hy]))]
    rfl
theorem flat_one {α β : Type} (g : α → β) (l : List α) : (l.map fun i => [g i]).flatten = l.map g := by
  induction l with
  | nil => rfl
  | cons x l ih => simp [ih]
theorem getD_range {a : List Int} {n : Nat} (ha : a.length = n) {β : Type} (f : Int → β) : ((List.range n).map fun i => f (a.getD i 0)) = a.map f := by
  apply List.ext_getElem?
  intro j
  rcases Nat.lt_or_ge j n with h | h
  · have hj : j < a.length := by omega
    simp [h, List.getD, List.getElem?_eq_getElem hj]
  · rw [List.getElem?_eq_none (by simp; omega), List.getElem?_eq_none (by simp; omega)]
theorem lits_hash (d : Nat) {a : List Int} (ha : a.length = 32) (hb : IsB a) : Tryd.prog.keyLits (d + 2) 35 (ub a) = some (a.map (Lit.int .u8)) := by
  have hu : Tryd.prog.underlying 35 = some (.array 32 5) := Tryd.underlying35
  have hc : Tryd.prog.cellsOf 35 = 32 := by kernel_rfl
  have he : Tryd.prog.cellsOf 5 = 1 := by kernel_rfl
  have hi : Tryd.prog.underlying 5 = some (.int .u8) := Tryd.underlying5
  unfold Program.keyLits
  simp only [hu, hc, he, ub_length, ha, if_true]
  have : (List.range 32).mapM (fun i => Tryd.prog.keyLits (d + 1) 5 (((ub a).drop (i * 1)).take 1)) = some ((List.range 32).map fun i => [Lit.int .u8 (a.getD i 0)]) := by
    refine mapM_some _ fun i hi' => ?_
    have hil : i < a.length := by rw [ha]; simpa using hi'
    have e : ((ub a).drop (i * 1)).take 1 = [.int .u8 (a.getD i 0)] := by
      rw [Nat.mul_one, List.drop_eq_getElem_cons (by simpa [ub] using hil)]
      simp [ub, List.getD, List.getElem?_eq_getElem hil]
    rw [e]
    have hw := wf_u8 (hb (a.getD i 0) (by simp [List.getD, List.getElem?_eq_getElem hil]))
    generalize a.getD i 0 = z at hw ⊢
    unfold Program.keyLits
    simp [hi, hw]
  rw [this]
  simp only [Option.map_some]
  rw [flat_one, getD_range ha]

theorem lits_point (d : Nat) {a : List Int} {n : Int} (ha : a.length = 32) (hb : IsB a) (hn : Is32 n) : Tryd.prog.keyLits (d + 3) 55 (pC a n) = some (a.map (Lit.int .u8) ++ [.int .u32 n]) := by
  have hu := Tryd.underlying55
  have hc : Tryd.prog.cellsOf 55 = 33 := by kernel_rfl
  have hh : Tryd.prog.cellsOf 35 = 32 := by kernel_rfl
  have h2 : Tryd.prog.cellsOf 22 = 1 := by kernel_rfl
  have e1 : ((pC a n).drop 0).take 32 = ub a := by
    rw [List.drop_zero, pC, List.take_append_of_le_length (by rw [ub_length, ha]; exact Nat.le_refl _), List.take_of_length_le (by rw [ub_length, ha]; exact Nat.le_refl _)]
  have e2 : ((pC a n).drop 32).take 1 = [.int .u32 n] := by
    rw [pC, List.drop_append_of_le_length (by rw [ub_length, ha]; exact Nat.le_refl _), List.drop_of_length_le (by rw [ub_length, ha]; exact Nat.le_refl _)]
    rfl
  have l2 : Tryd.prog.keyLits (d + 2) 22 [.int .u32 n] = some [.int .u32 n] := by
    have hi : Tryd.prog.underlying 22 = some (.int .u32) := Tryd.underlying22
    have hw := wf_u32 hn
    unfold Program.keyLits
    simp [hi, hw]
  have l1 := lits_hash d ha hb
  unfold Program.keyLits
  simp only [hu, hc, pC_length ha, List.mapM_cons, List.mapM_nil, hh, h2, e1, e2, l1, l2]
  simp
theorem lits_inj {k : IntKind} {a b : List Int} (h : a.map (Lit.int k) = b.map (Lit.int k)) : a = b := by
  induction a generalizing b with
  | nil => cases b with
    | nil => rfl
    | cons y b => cases h
  | cons x a ih => cases b with
    | nil => cases h
    | cons y b =>
      injection h with h1 h2
      injection h1 with _ h1
      rw [h1, ih h2]
theorem hash_formed {a : List Int} (ha : a.length = 32) : (Value.agg (ub a).toArray).formed Tryd.prog 35 = true := by
  have hu : Tryd.prog.underlying 35 = some (.array 32 5) := Tryd.underlying35
  have hc : Tryd.prog.cellsOf 35 = 32 := by kernel_rfl
  simp [Value.formed, hu, hc, ub_length, ha]
theorem eq_hash (a b : List Int) (w : World) (ha : a.length = 32) (hb : b.length = 32) (ka : IsB a) (kb : IsB b) : (Op.equalIn 10000 35 (.agg (ub a).toArray) (.agg (ub b).toArray)).run Tryd.prog w = .ok (decide (a = b)) w := by
  obtain ⟨r, hr, hi⟩ := run_equalIn_deep (P := Tryd.prog) 9998 2 35 (by kernel_rfl) w 2 2 (.agg (ub a).toArray) (.agg (ub b).toArray) _ _ (hash_formed ha) (hash_formed hb) (by simpa [Value.cells] using lits_hash 0 ha ka) (by simpa [Value.cells] using lits_hash 0 hb kb)
  have e : decide (a = b) = r := by
    rw [Bool.eq_iff_iff, hi, decide_eq_true_iff]
    constructor
    · intro h; rw [h]
    · intro h
      exact lits_inj h
  rw [e]; exact hr
theorem point_formed {a : List Int} {n : Int} (ha : a.length = 32) : (Value.agg (pC a n).toArray).formed Tryd.prog 55 = true := by
  have hu := Tryd.underlying55
  have hc : Tryd.prog.cellsOf 55 = 33 := by kernel_rfl
  simp [Value.formed, hu, hc, pC_length ha]
theorem point_inj {a b : List Int} {n m : Int} (ha : a.length = 32) (hb : b.length = 32) (h : a.map (Lit.int .u8) ++ [Lit.int .u32 n] = b.map (Lit.int .u8) ++ [Lit.int .u32 m]) : a = b ∧ n = m := by
  obtain ⟨h1, h2⟩ := List.append_inj h (by simp [ha, hb])
  injection h2 with h2
  injection h2 with _ h2
  exact ⟨lits_inj h1, h2⟩
theorem eq_point (a b : List Int) (n m : Int) (w : World) (ha : a.length = 32) (hb : b.length = 32) (ka : IsB a) (kb : IsB b) (kn : Is32 n) (km : Is32 m) :
    (Op.equalIn 10000 55 (.agg (pC a n).toArray) (.agg (pC b m).toArray)).run Tryd.prog w = .ok (decide (a = b ∧ n = m)) w := by
  obtain ⟨r, hr, hi⟩ := run_equalIn_deep (P := Tryd.prog) 9997 3 55 (by kernel_rfl) w 3 3 (.agg (pC a n).toArray) (.agg (pC b m).toArray) _ _ (point_formed ha) (point_formed hb) (by simpa [Value.cells] using lits_point 0 ha ka kn) (by simpa [Value.cells] using lits_point 0 hb kb km)
  have e : decide (a = b ∧ n = m) = r := by
    rw [Bool.eq_iff_iff, hi, decide_eq_true_iff]
    constructor
    · rintro ⟨h1, h2⟩; rw [h1, h2]
    · exact point_inj ha hb
  rw [e]; exact hr
theorem lits_out (d : Nat) {x : TOut} (hx : x.Ok) : Tryd.prog.keyLits (d + 3) 59 (outC x) = some (.int .u64 x.value :: x.lock.map (Lit.int .u8)) := by
  have hu := Tryd.underlying59
  have hc : Tryd.prog.cellsOf 59 = 33 := by kernel_rfl
  have hh : Tryd.prog.cellsOf 35 = 32 := by kernel_rfl
  have h2 : Tryd.prog.cellsOf 48 = 1 := by kernel_rfl
  have e1 : ((outC x).drop 0).take 1 = [.int .u64 x.value] := rfl
  have e2 : ((outC x).drop 1).take 32 = ub x.lock := by
    rw [outC, List.drop_succ_cons, List.drop_zero, List.take_of_length_le (by rw [ub_length, hx.lockl]; exact Nat.le_refl _)]
  have l2 : Tryd.prog.keyLits (d + 2) 48 [.int .u64 x.value] = some [.int .u64 x.value] := by
    have hi : Tryd.prog.underlying 48 = some (.int .u64) := Tryd.underlying48
    have hw := wf_u64 hx.value
    unfold Program.keyLits
    simp [hi, hw]
  have l1 := lits_hash d hx.lockl hx.lock
  unfold Program.keyLits
  simp only [hu, hc, outC_length hx.lockl, List.mapM_cons, List.mapM_nil, hh, h2, e1, e2, l1, l2]
  simp
theorem out_formed {x : TOut} (hx : x.Ok) : (Value.agg (outC x).toArray).formed Tryd.prog 59 = true := by
  have hu := Tryd.underlying59
  have hc : Tryd.prog.cellsOf 59 = 33 := by kernel_rfl
  simp [Value.formed, hu, hc, outC_length hx.lockl]
theorem eq_out (x y : TOut) (w : World) (hx : x.Ok) (hy : y.Ok) : (Op.equalIn 10000 59 (.agg (outC x).toArray) (.agg (outC y).toArray)).run Tryd.prog w = .ok (decide (x = y)) w := by
  obtain ⟨r, hr, hi⟩ := run_equalIn_deep (P := Tryd.prog) 9997 3 59 (by kernel_rfl) w 3 3 (.agg (outC x).toArray) (.agg (outC y).toArray) _ _ (out_formed hx) (out_formed hy) (by simpa [Value.cells] using lits_out 0 hx) (by simpa [Value.cells] using lits_out 0 hy)
  have e : decide (x = y) = r := by
    rw [Bool.eq_iff_iff, hi, decide_eq_true_iff]
    constructor
    · intro h; rw [h]
    · intro h
      have h2 := (List.cons.inj h).2
      have h1 := (List.cons.inj h).1
      have h1' : x.value = y.value := by injection h1
      exact (tout_eq x y).2 ⟨h1', lits_inj h2⟩
  rw [e]; exact hr

theorem run_eq_hash (a b : List Int) (w : World) (ha : a.length = 32) (hb : b.length = 32) (ka : IsB a) (kb : IsB b) : (binOp .eql 35 (.agg (ub a).toArray) (.agg (ub b).toArray)).run Tryd.prog w = .ok (.bool (decide (a = b))) w := by
  rw [run_eql_struct, eq_hash a b w ha hb ka kb]; rfl
theorem run_eq_point (a b : List Int) (n m : Int) (w : World) (ha : a.length = 32) (hb : b.length = 32) (ka : IsB a) (kb : IsB b) (kn : Is32 n) (km : Is32 m) :
    (binOp .eql 55 (.agg (pC a n).toArray) (.agg (pC b m).toArray)).run Tryd.prog w = .ok (.bool (decide (a = b ∧ n = m))) w := by
  rw [run_eql_struct, eq_point a b n m w ha hb ka kb kn km]; rfl
theorem run_neq_out (x y : TOut) (w : World) (hx : x.Ok) (hy : y.Ok) : (binOp .neq 59 (.agg (outC x).toArray) (.agg (outC y).toArray)).run Tryd.prog w = .ok (.bool (!decide (x = y))) w := by
  rw [run_neq_struct, eq_out x y w hx hy]; rfl
/-- An operation that answers a value and leaves the world. -/
theorem wp_val {P : Program} {w : World} {ops : Array Oper} {rest : List Oper} {o : Oper} {a : Act} {Q : Exit → Act → World → Prop} (hw : Region.wanted o (yielded ops a.tmps) = true) (v : Value) (h0 : (execOp a.eval o).run P w = .ok (.value v) w)
    (h : wpList P ops Q rest (a.put o.dst v) w) : wpList P ops Q (o :: rest) a w :=
  wpList_step fun K hK => by
    rw [if_pos hw]
    unfold Oper.wp
    rw [h0]
    exact hK _ _ h
/-- 'x == y', of rows. -/
theorem exec_bin {P : Program} {w : World} {o : Oper} {a : Act} (op : BinOp) (t t' : TypeId) (x y : Operand) (ho : o.op = .binOp op t x y t') {xs ys : Array Value} {r : Value} (hx : a.eval x = .agg xs) (hy : a.eval y = .agg ys) (hm : P.eqGuardType P.depth t = false)
    (hr : (binOp op t (.agg xs) (.agg ys)).run P w = .ok r w) : (execOp a.eval o).run P w = .ok (.value r) w := by
  unfold execOp
  simp only [ho, hx, hy, Sem.run_bind, run_eqGuard_agg w op t x y xs ys hm, Result.andThen_ok, hr, Sem.run_pure]
theorem gdHash : Tryd.prog.eqGuardType Tryd.prog.depth 35 = false := by kernel_rfl
theorem gdPoint : Tryd.prog.eqGuardType Tryd.prog.depth 55 = false := by kernel_rfl
theorem gdOut : Tryd.prog.eqGuardType Tryd.prog.depth 59 = false := by kernel_rfl
/-- One operation alone may come up: it is carried out, and S is shown anew. -/
theorem hOne {P : Program} {md : Region.Mode} {ops : Array Oper} {Q : Exit → Act → World → Prop} {S : World → Prop} {i fuel : Nat} {o : Oper} {listed : Array Bool} {a : Act} {w : World} (hr : Region.ready md ops listed = [i]) (ho : ops[i]? = some o) (hg : Region.wanted o (yielded ops a.tmps) = true)
    (h : o.wp P a w (fun a' w' => S w' ∧ wpAnyH P md ops Q S fuel (listed.setIfInBounds i true) a' w') Q) : wpAnyH P md ops Q S (fuel + 1) listed a w := by
  refine wpAnyH_all hr (by simp) fun j hj => ?_
  have : j = i := by simpa using hj
  subst this
  unfold wpOp
  simp only [ho, hg, if_true]
  exact .inl h
theorem isB_zero : IsB zero32 := by intro x hx; simp [zero32] at hx; subst hx; decide
/-- A load that every world that meets S lets by. -/
theorem hLoad {P : Program} {md : Region.Mode} {ops : Array Oper} {Q : Exit → Act → World → Prop} {S : World → Prop} {i fuel : Nat} {o : Oper} {listed : Array Bool} {a : Act} {w : World} {ty n : Nat} {x : Operand} {b off : Nat} {cs : List Value} (ho : ops[i]? = some o) (hs : Region.noSelect ops = true) (hf : Region.free md ops listed i = true) (hr : (Region.ready md ops listed).contains i = true)
    (hQ : ∀ c a w, Q (.panic c) (a.put o.dst (.agg cs.toArray)) w → Q (.panic c) a w) (hg : Region.wanted o (yielded ops a.tmps) = true) (hop : o.op = .load ty x) (hA : Ag P ty n) (hx : a.eval x = .pointer (some ⟨b, off, none⟩)) (hl : cs.length = n)
    (hc : ∀ w, S w → ∀ j u, cs[j]? = some u → w.cell? ⟨b, off + j, none⟩ = some u) (hS : S w) (h : wpAnyH P md ops Q S fuel (listed.setIfInBounds i true) (a.put o.dst (.agg cs.toArray)) w) : wpAnyH P md ops Q S (fuel + 1) listed a w :=
  wpAnyH_take ho hs hf hr hQ (.inl ⟨hg, fun w' hw' => by
    unfold execOp
    simp only [hop, hx, Instr.loadAt, Instr.sureAddr, Sem.run_bind, Sem.run_pure, Result.andThen_ok, run_load_at hA hl (hc w' hw')]⟩) hS h

/-- Is it the point of no transaction? -/
def isNullP (tx : List Int) (n : Int) : Bool := decide (tx = zero32 ∧ n = 4294967295)
set_option maxRecDepth 100000 in
theorem isNull_calls (tx : List Int) (n : Int) (w : World) (hx : tx.length = 32) (kx : IsB tx) (kn : Is32 n) :
    Calls Tryd.prog 76 #[.agg (pC tx n).toArray] w fun e w' => e = .returned (.bool (isNullP tx n)) ∧ Below w.heap.size w w' := by
  have HX := Lib.hid hx
  have tok1 : True := trivial
  go_enter Tryd.func76, Tryd.ntmps76
  go_wp2_with (have _t := tok1; refine wp_box (o := ⟨some 1, _, _, _, _, _⟩) rfl _ _ rfl rfl ?_; intro g1 wa h1 ba ga; clear _t tok1)
  have h1' : Bk wa g1 55 (pC tx n).toArray := h1
  refine wp_region_held_drew (S := fun w' => Bk w' g1 55 (pC tx n).toArray ∧ Below w.heap.size w w') (by kernel_rfl) ⟨h1', ba.drew⟩ (fun hHeld => ?_)
  refine hLoad (i := 0) (cs := pC tx n) rfl (by kernel_rfl) (by kernel_rfl) (by kernel_rfl) (fun _ _ _ h => h) (by rfl) rfl agPoint rfl (pC_length HX.out n) (fun w' hS => Bk.all hS.1) hHeld ?_
  simp only [Act.put, List.setIfInBounds_toArray, List.set_cons_zero, List.set_cons_succ]
  refine hOne (i := 1) (by kernel_rfl) rfl (by rfl) ?_
  go_simp
  refine (null_calls _).mono ?_
  rintro e wb ⟨rfl, bb⟩
  have h1b := h1'.drew.same bb
  have bwb := ba.drew.trans (bb.mono ba.drew.size)
  refine ⟨⟨h1b, bwb⟩, ?_⟩
  clear hHeld
  have hHeld : Bk wb g1 55 (pC tx n).toArray ∧ Below w.heap.size w wb := ⟨h1b, bwb⟩
  refine wpAnyH_take (i := 2) (v := .bool (isNullP tx n)) rfl (by kernel_rfl) (by kernel_rfl) (by kernel_rfl) (fun _ _ _ h => h) (.inl ⟨by rfl, fun w' _ => exec_bin _ _ _ _ _ rfl rfl rfl gdPoint (run_eq_point tx zero32 n 4294967295 w' HX.out rfl kx isB_zero kn ⟨by decide, by decide⟩)⟩) hHeld ?_
  simp only [Act.put, List.setIfInBounds_toArray, List.set_cons_zero, List.set_cons_succ]
  refine hOne (i := 3) (by kernel_rfl) rfl (by rfl) ?_
  go_simp
  refine ⟨by kernel_rfl, ?_⟩
  go_wp2_with fail
  go_ret
  exact ⟨rfl, bwb⟩
end Go.Proofs.YtjfeehoflahblaaDoor
