/- Arguments that come in: digests, byte rows, inputs, outputs, transactions, read as plain data. Plain lemmas, no conditions. -/
import Derived.Test.YtjfeehoflahblaaDoorClone
import Derived.ProofKit
import Derived.OpenShut
import Derived.Lib.SmallJoins
import Derived.Deep.Strs
import Derived.ChangeOld
import Derived.Deep.Slices
namespace Go.Proofs.YtjfeehoflahblaaDoor
open Go.RowKit Go.ChangeShapes Go.WideShapes Go.ChangeAt Go.Deep Go.Joins

instance : Inhabited TIn := ⟨⟨[], 0, [], 0⟩⟩
instance : Inhabited TOut := ⟨⟨0, []⟩⟩
section
variable {H : Type} {enc : TypeId × Value → H} {w : World} {sp : Nat → Bool} {held : Bool} {fuel : Nat} {cs : List Value} {x : DataW H × List MemPlace}

theorem add_flat {a : Addr} (hs : a.spot = none) (j : Nat) : a.add j = ⟨a.block, a.off + j, none⟩ := by
  obtain ⟨b, o, s⟩ := a
  simp only at hs
  subst hs
  unfold Addr.add
  by_cases hj : j = 0
  · subst hj; simp
  · simp [hj]
theorem cells_get {base n : Nat} {a : Addr} (h : w.cells? base a n = some cs) (hn : 0 < n) : a.spot = none ∧ cs.length = n ∧ a.block < w.heap.size ∧ ∀ j u, cs[j]? = some u → w.cell? ⟨a.block, a.off + j, none⟩ = some u := by
  obtain ⟨_, hl, hc⟩ := World.cells?_some h
  have hlt := World.cells?_block h hn
  have h0 : w.cell? a = cs[0]? := by have := hc 0 hn; simpa [Addr.add] using this
  have hs : a.spot = none := spot_none (h0.trans (List.getElem?_eq_getElem (by omega)))
  refine ⟨hs, hl, hlt, fun j u hu => ?_⟩
  have hj : j < n := by
    rcases Nat.lt_or_ge j n with h1 | h1
    · exact h1
    · rw [List.getElem?_eq_none (by omega)] at hu; cases hu
  have := hc j hj
  rw [add_flat hs] at this
  exact this.trans hu
theorem list_ub : ∀ {l : List Value}, (∀ i, i < l.length → ∃ n : Int, l[i]? = some (.int .u8 n) ∧ 0 ≤ n ∧ n < 256) → ∃ bs : List Int, l = ub bs ∧ bs.length = l.length ∧ IsB bs
  | [], _ => ⟨[], rfl, rfl, by simp [IsB]⟩
  | v :: r, h => by
    obtain ⟨n, hn, n0, n1⟩ := h 0 (by simp)
    simp at hn
    subst hn
    obtain ⟨bs, h1, h2, h3⟩ := list_ub (l := r) fun i hi => by
      obtain ⟨m, hm, m0, m1⟩ := h (i + 1) (by simp; omega)
      exact ⟨m, by simpa using hm, m0, m1⟩
    refine ⟨n :: bs, by rw [h1]; simp [ub], by simp [h2], ?_⟩
    intro y hy
    rcases List.mem_cons.1 hy with rfl | hy
    · exact ⟨n0, n1⟩
    · exact h3 y hy
theorem u8_range {n : Int} (h : (Lit.int .u8 n).wf = true) : 0 ≤ n ∧ n < 256 := by
  have h1 : IntKind.u8.min = 0 := by decide
  have h2 : IntKind.u8.max = 255 := by decide
  simp [Lit.wf, h1, h2] at h; omega
theorem u32_range {n : Int} (h : (Lit.int .u32 n).wf = true) : Is32 n := by
  have h1 : IntKind.u32.min = 0 := by decide
  have h2 : IntKind.u32.max = 4294967295 := by decide
  simp [Lit.wf, h1, h2] at h; exact ⟨by omega, by omega⟩
theorem u64_range {n : Int} (h : (Lit.int .u64 n).wf = true) : Is64 n := by
  have h1 : IntKind.u64.min = 0 := by decide
  have h2 : IntKind.u64.max = 18446744073709551615 := by decide
  simp [Lit.wf, h1, h2] at h; exact ⟨by omega, by omega⟩
theorem c_u8 : Tryd.prog.cellsOf 5 = 1 := by kernel_rfl
theorem c_hash : Tryd.prog.cellsOf 35 = 32 := by kernel_rfl
theorem c_point : Tryd.prog.cellsOf 55 = 33 := by kernel_rfl
theorem c_in : Tryd.prog.cellsOf 57 = 35 := by kernel_rfl
theorem c_out : Tryd.prog.cellsOf 59 = 33 := by kernel_rfl
theorem c_tx : Tryd.prog.cellsOf 26 = 4 := by kernel_rfl
theorem c_u32 : Tryd.prog.cellsOf 22 = 1 := by kernel_rfl
theorem c_u64 : Tryd.prog.cellsOf 48 = 1 := by kernel_rfl
theorem c_bytes : Tryd.prog.cellsOf 29 = 1 := by kernel_rfl
theorem c_ins : Tryd.prog.cellsOf 23 = 1 := by kernel_rfl
theorem c_outs : Tryd.prog.cellsOf 24 = 1 := by kernel_rfl
theorem drop_take {n : Nat} (h : cs.length = n) {o k : Nat} (hk : o + k = n) : (cs.drop o).take k = cs.drop o := List.take_of_length_le (by simp; omega)
theorem open_hash (h : DataW.trod enc Tryd.prog w 0 sp held fuel 35 cs = some x) : ∃ l : List Int, cs = ub l ∧ l.length = 32 ∧ IsB l := by
  obtain ⟨xs, m, _, _, hl, hx, he⟩ := DataW.trod_array Tryd.underlying35 h
  rw [c_hash] at hl
  rw [c_u8] at he
  obtain ⟨bs, h1, h2, h3⟩ := list_ub (l := cs) fun i hi => by
    have h1 := he i (by omega)
    rw [List.getElem?_eq_getElem (show i < xs.length by omega)] at h1
    obtain ⟨n, e1, _, e3⟩ := DataW.trod_int Tryd.underlying5 h1
    have h2 := u8_range e3
    refine ⟨n, ?_, h2.1, h2.2⟩
    rw [Nat.mul_one] at e1
    have h3 := congrArg (fun l : List Value => l[0]?) e1
    rw [List.getElem?_take_of_lt (by omega), List.getElem?_drop] at h3
    simpa using h3
  exact ⟨bs, h1, by omega, h3⟩
theorem open_bytes (h : DataW.trod enc Tryd.prog w 0 sp held fuel 29 cs = some x) : ∃ (K : Option Addr) (len cap : Nat) (l : List Int), cs = [.slice K len cap] ∧ l.length = len ∧ IsB l ∧ Rd w w.heap.size 1 K len (ub l) ∧ len ≤ cap ∧ cap ≤ maxLen := by
  rcases DataW.trod_slice Tryd.underlying29 h with ⟨rfl, _⟩ | ⟨a, len, cap, elems, rest, n, _, rfl, _, _, hlc, hcm, hel, he, _⟩
  · exact ⟨none, 0, 0, [], rfl, rfl, by simp [IsB], Rd.nil_ _ _ _ _, Nat.le_refl _, by simp [maxLen]⟩
  · rw [c_u8] at he
    have hc : ∀ i, i < len → ∃ n : Int, w.cells? 0 (a.add i) 1 = some [.int .u8 n] ∧ 0 ≤ n ∧ n < 256 := fun i hi => by
      have h1 := he i hi
      rw [List.getElem?_eq_getElem (show i < elems.length by omega), Option.bind_eq_some_iff] at h1
      obtain ⟨cc, h2, h3⟩ := h1
      obtain ⟨n, rfl, _, e3⟩ := DataW.trod_int Tryd.underlying5 h3
      have h4 := u8_range e3
      exact ⟨n, by simpa using h2, h4.1, h4.2⟩
    by_cases h0 : len = 0
    · subst h0
      exact ⟨some a, 0, cap, [], rfl, rfl, by simp [IsB], Rd.nil_ _ _ _ _, hlc, hcm⟩
    · obtain ⟨n0, hc0, _⟩ := hc 0 (by omega)
      obtain ⟨hs, _, hlt, _⟩ := cells_get hc0 (by omega)
      have hs' : a.spot = none := by simpa [Addr.add] using hs
      have hlt' : a.block < w.heap.size := by simpa [Addr.add] using hlt
      obtain ⟨bs, h1, h2, h3⟩ := list_ub (l := cellsAt w a.block a.off len) fun i hi => by
        rw [cellsAt_length] at hi
        obtain ⟨n, hcn, n0, n1⟩ := hc i hi
        obtain ⟨_, _, _, hg⟩ := cells_get hcn (by omega)
        have hg0 := hg 0 _ rfl
        rw [add_flat hs'] at hg0
        exact ⟨n, cellsAt_get hi (by simpa using hg0), n0, n1⟩
      rw [cellsAt_length] at h2
      refine ⟨some a, len, cap, bs, rfl, h2, h3, ?_, hlc, hcm⟩
      have ha : a = ⟨a.block, a.off, none⟩ := by obtain ⟨b, o, s⟩ := a; simp only at hs'; subst hs'; rfl
      rw [ha]
      refine Rd.of_cells (by simp [ub_length, h2]) hlt' fun j u hu => ?_
      have hj : j < len := by
        rcases Nat.lt_or_ge j len with h5 | h5
        · exact h5
        · rw [List.getElem?_eq_none (by rw [ub_length]; omega)] at hu; cases hu
      obtain ⟨n, hcn, _, _⟩ := hc j hj
      obtain ⟨_, _, _, hg⟩ := cells_get hcn (by omega)
      have hg0 := hg 0 _ rfl
      rw [add_flat hs'] at hg0
      have hq : (cellsAt w a.block a.off len)[j]? = some (.int .u8 n) := cellsAt_get hj (by simpa using hg0)
      rw [h1] at hq
      rw [hq] at hu
      injection hu with hu
      subst hu
      simpa using hg0
theorem open_point (h : DataW.trod enc Tryd.prog w 0 sp held fuel 55 cs = some x) : ∃ (tx : List Int) (n : Int), cs = pC tx n ∧ tx.length = 32 ∧ IsB tx ∧ Is32 n := by
  obtain ⟨y0, y1, m, _, hl, h0, h1⟩ := trod_struct2 Tryd.underlying55 h
  rw [c_point] at hl
  simp only [c_hash, c_u32] at h0 h1
  obtain ⟨tx, e0, l0, b0⟩ := open_hash h0
  obtain ⟨n, e1, _, w1⟩ := DataW.trod_int Tryd.underlying22 h1
  refine ⟨tx, n, ?_, l0, b0, u32_range w1⟩
  rw [List.drop_zero] at e0
  rw [drop_take hl rfl] at e1
  rw [pC, ← e0, ← e1]
  exact (List.take_append_drop 32 cs).symm
theorem open_in (h : DataW.trod enc Tryd.prog w 0 sp held fuel 57 cs = some x) : ∃ (y : TIn) (K : Option Addr) (c : Nat), cs = inC y K c ∧ y.Ok ∧ Rd w w.heap.size 1 K y.key.length (ub y.key) := by
  obtain ⟨y0, y1, y2, m, _, hl, h0, h1, h2⟩ := trod_struct3 Tryd.underlying57 h
  rw [c_in] at hl
  simp only [c_point, c_u32, c_bytes] at h0 h1 h2
  obtain ⟨tx, n, e0, l0, b0, n0⟩ := open_point h0
  obtain ⟨K, len, cap, key, e1, k1, kb, hr, _, _⟩ := open_bytes h1
  obtain ⟨q, e2, _, w2⟩ := DataW.trod_int Tryd.underlying22 h2
  refine ⟨⟨tx, n, key, q⟩, K, cap, ?_, ⟨l0, b0, n0, kb, u32_range w2⟩, by rw [k1]; exact hr⟩
  rw [List.drop_zero] at e0
  rw [drop_take hl rfl] at e2
  have e3 : cs = cs.take 33 ++ ((cs.drop 33).take 1 ++ cs.drop 34) := by
    conv => lhs; rw [← List.take_append_drop 33 cs, ← List.take_append_drop 1 (cs.drop 33), List.drop_drop]
  rw [e3, e0, e1, e2, inC, pC, k1]
  simp
theorem open_out (h : DataW.trod enc Tryd.prog w 0 sp held fuel 59 cs = some x) : ∃ (y : TOut), cs = outC y ∧ y.Ok := by
  obtain ⟨y0, y1, m, _, hl, h0, h1⟩ := trod_struct2 Tryd.underlying59 h
  rw [c_out] at hl
  simp only [c_hash, c_u64] at h0 h1
  obtain ⟨v, e0, _, w0⟩ := DataW.trod_int Tryd.underlying48 h0
  obtain ⟨lk, e1, l1, b1⟩ := open_hash h1
  refine ⟨⟨v, lk⟩, ?_, ⟨u64_range w0, l1, b1⟩⟩
  rw [List.drop_zero] at e0
  rw [drop_take hl rfl] at e1
  have e3 : cs = cs.take 1 ++ cs.drop 1 := (List.take_append_drop 1 cs).symm
  rw [e3, e0, e1, outC]
  rfl
theorem open_ins (h : DataW.trod enc Tryd.prog w 0 sp held fuel 23 cs = some x) : ∃ (A : Option Addr) (c : Nat) (l : List TIn), cs = [.slice A l.length c] ∧ RdIns w w.heap.size A l ∧ (∀ y ∈ l, y.Ok) ∧ l.length ≤ c ∧ c ≤ maxLen := by
  rcases DataW.trod_slice Tryd.underlying23 h with ⟨rfl, _⟩ | ⟨a, len, cap, elems, rest, n, _, rfl, _, _, hlc, hcm, hel, he, _⟩
  · exact ⟨none, 0, [], rfl, RdIns.nil_ _ _ _, by simp, Nat.le_refl _, by simp [maxLen]⟩
  · rw [c_in] at he
    have hc : ∀ i, i < len → ∃ (y : TIn), y.Ok ∧ ∃ (K : Option Addr) (c : Nat), w.cells? 0 (a.add (i * 35)) 35 = some (inC y K c) ∧ Rd w w.heap.size 1 K y.key.length (ub y.key) := fun i hi => by
      have h1 := he i hi
      rw [List.getElem?_eq_getElem (show i < elems.length by omega), Option.bind_eq_some_iff] at h1
      obtain ⟨cc, h2, h3⟩ := h1
      obtain ⟨y, K, c, rfl, ok, hr⟩ := open_in h3
      exact ⟨y, ok, K, c, h2, hr⟩
    by_cases h0 : len = 0
    · subst h0
      exact ⟨some a, cap, [], rfl, RdIns.nil_ _ _ _, by simp, hlc, hcm⟩
    · obtain ⟨y0, _, K0, c0, hc0, _⟩ := hc 0 (by omega)
      obtain ⟨hs, _, hlt, _⟩ := cells_get hc0 (by omega)
      have hs' : a.spot = none := by simpa [Addr.add] using hs
      have hlt' : a.block < w.heap.size := by simpa [Addr.add] using hlt
      have ha : a = ⟨a.block, a.off, none⟩ := by obtain ⟨b, o, s⟩ := a; simp only at hs'; subst hs'; rfl
      have ⟨f, hf⟩ := choose_lt (n := len) (fun i hi => hc i hi)
      refine ⟨some a, cap, (List.range len).map f, by simp, ?_, ?_, by simpa using hlc, hcm⟩
      · intro j y hy
        have hj : j < len := by have := lt_of_get hy; simpa using this
        rw [List.getElem?_map, List.getElem?_range hj] at hy
        simp at hy
        subst hy
        obtain ⟨_, K, c, hcn, hr⟩ := hf j hj
        obtain ⟨_, _, _, hg⟩ := cells_get hcn (by omega)
        refine ⟨a.block, a.off, K, c, by rw [← ha], hlt', fun k u hu => ?_, hr⟩
        have := hg k u hu
        rwa [add_flat hs'] at this
      · intro y hy
        obtain ⟨i, hi, rfl⟩ := List.mem_map.1 hy
        exact (hf i (by simpa using hi)).1
theorem open_outs (h : DataW.trod enc Tryd.prog w 0 sp held fuel 24 cs = some x) : ∃ (A : Option Addr) (c : Nat) (l : List TOut), cs = [.slice A l.length c] ∧ RdOuts w w.heap.size A l ∧ (∀ y ∈ l, y.Ok) ∧ l.length ≤ c ∧ c ≤ maxLen := by
  rcases DataW.trod_slice Tryd.underlying24 h with ⟨rfl, _⟩ | ⟨a, len, cap, elems, rest, n, _, rfl, _, _, hlc, hcm, hel, he, _⟩
  · exact ⟨none, 0, [], rfl, RdOuts.nil_ _ _ _, by simp, Nat.le_refl _, by simp [maxLen]⟩
  · rw [c_out] at he
    have hc : ∀ i, i < len → ∃ (y : TOut), y.Ok ∧ w.cells? 0 (a.add (i * 33)) 33 = some (outC y) := fun i hi => by
      have h1 := he i hi
      rw [List.getElem?_eq_getElem (show i < elems.length by omega), Option.bind_eq_some_iff] at h1
      obtain ⟨cc, h2, h3⟩ := h1
      obtain ⟨y, rfl, ok⟩ := open_out h3
      exact ⟨y, ok, h2⟩
    by_cases h0 : len = 0
    · subst h0
      exact ⟨some a, cap, [], rfl, RdOuts.nil_ _ _ _, by simp, hlc, hcm⟩
    · obtain ⟨y0, _, hc0⟩ := hc 0 (by omega)
      obtain ⟨hs, _, hlt, _⟩ := cells_get hc0 (by omega)
      have hs' : a.spot = none := by simpa [Addr.add] using hs
      have hlt' : a.block < w.heap.size := by simpa [Addr.add] using hlt
      have ha : a = ⟨a.block, a.off, none⟩ := by obtain ⟨b, o, s⟩ := a; simp only at hs'; subst hs'; rfl
      have ⟨f, hf⟩ := choose_lt (n := len) (fun i hi => hc i hi)
      refine ⟨some a, cap, (List.range len).map f, by simp, ?_, ?_, by simpa using hlc, hcm⟩
      · intro j y hy
        have hj : j < len := by have := lt_of_get hy; simpa using this
        rw [List.getElem?_map, List.getElem?_range hj] at hy
        simp at hy
        subst hy
        obtain ⟨_, hcn⟩ := hf j hj
        obtain ⟨_, _, _, hg⟩ := cells_get hcn (by omega)
        refine ⟨a.block, a.off, by rw [← ha], hlt', fun k u hu => ?_⟩
        have := hg k u hu
        rwa [add_flat hs'] at this
      · intro y hy
        obtain ⟨i, hi, rfl⟩ := List.mem_map.1 hy
        exact (hf i (by simpa using hi)).1
theorem open_tx (h : DataW.trod enc Tryd.prog w 0 sp held fuel 26 cs = some x) : ∃ (t : TTx) (A : Option Addr) (c : Nat) (A' : Option Addr) (c' : Nat), cs = txC t A c A' c' ∧ RdIns w w.heap.size A t.ins ∧ RdOuts w w.heap.size A' t.outs ∧ t.Ok ∧ t.ins.length ≤ maxLen ∧ t.outs.length ≤ maxLen := by
  obtain ⟨y0, y1, y2, y3, m, _, hl, h0, h1, h2, h3⟩ := trod_struct4 Tryd.underlying26 h
  rw [c_tx] at hl
  simp only [c_u32, c_ins, c_outs] at h0 h1 h2 h3
  obtain ⟨v, e0, _, w0⟩ := DataW.trod_int Tryd.underlying22 h0
  obtain ⟨A, c, li, e1, ri, oki, a1, a2⟩ := open_ins h1
  obtain ⟨A', c', lo, e2, ro, oko, b1, b2⟩ := open_outs h2
  obtain ⟨q, e3, _, w3⟩ := DataW.trod_int Tryd.underlying22 h3
  refine ⟨⟨v, li, lo, q⟩, A, c, A', c', ?_, ri, ro, ⟨u32_range w0, oki, oko, u32_range w3⟩, Nat.le_trans a1 a2, Nat.le_trans b1 b2⟩
  match cs, hl, e0, e1, e2, e3 with
  | [x0, x1, x2, x3], _, e0, e1, e2, e3 =>
    simp at e0 e1 e2 e3
    subst e0 e1 e2 e3
    rfl
end
end Go.Proofs.YtjfeehoflahblaaDoor
