/- How a transaction lies in memory: its inputs, outputs, keys. Plain lemmas. No conditions. -/
import Derived.Test.YtjfeehoflahblaaDoorCompact
namespace Go.Proofs.YtjfeehoflahblaaDoor
open Go.RowKit

def inC (x : TIn) (K : Option Addr) (c : Nat) : List Value := ub x.tx ++ [.int .u32 x.n, .slice K x.key.length c, .int .u32 x.seq]
def outC (x : TOut) : List Value := .int .u64 x.value :: ub x.lock
def txC (t : TTx) (A : Option Addr) (c : Nat) (A' : Option Addr) (c' : Nat) : List Value := [.int .u32 t.ver, .slice A t.ins.length c, .slice A' t.outs.length c', .int .u32 t.time]
theorem inC_length {x : TIn} (h : x.tx.length = 32) (K : Option Addr) (c : Nat) : (inC x K c).length = 35 := by simp [inC, ub_length, h]
theorem outC_length {x : TOut} (h : x.lock.length = 32) : (outC x).length = 33 := by simp [outC, ub_length, h]
theorem inC_one (x : TIn) (K : Option Addr) (c : Nat) : ∀ u ∈ inC x K c, u.oneCell' = true := by
  intro u hu
  rcases List.mem_append.1 hu with h | h
  · exact ub_one _ u h
  · simp at h; rcases h with rfl | rfl | rfl <;> rfl
theorem outC_one (x : TOut) : ∀ u ∈ outC x, u.oneCell' = true := by
  intro u hu
  rcases List.mem_cons.1 hu with rfl | h
  · rfl
  · exact ub_one _ u h
theorem inC_32 {x : TIn} (h : x.tx.length = 32) (K : Option Addr) (c : Nat) : (inC x K c)[32]? = some (.int .u32 x.n) := by
  unfold inC; rw [List.getElem?_append_right (by simp [ub_length, h])]; simp [ub_length, h]
theorem inC_33 {x : TIn} (h : x.tx.length = 32) (K : Option Addr) (c : Nat) : (inC x K c)[33]? = some (.slice K x.key.length c) := by
  unfold inC; rw [List.getElem?_append_right (by simp [ub_length, h])]; simp [ub_length, h]
theorem inC_34 {x : TIn} (h : x.tx.length = 32) (K : Option Addr) (c : Nat) : (inC x K c)[34]? = some (.int .u32 x.seq) := by
  unfold inC; rw [List.getElem?_append_right (by simp [ub_length, h])]; simp [ub_length, h]
theorem inC_lt {x : TIn} {j : Nat} {u : Value} (K : Option Addr) (c : Nat) (hu : (ub x.tx)[j]? = some u) : (inC x K c)[j]? = some u := by
  unfold inC
  rw [List.getElem?_append_left]
  · exact hu
  · rcases Nat.lt_or_ge j (ub x.tx).length with h | h
    · exact h
    · rw [List.getElem?_eq_none h] at hu; cases hu

/-- The inputs l lie from A on, their keys wherever, all below block B. -/
def RdIns (w : World) (B : Nat) (A : Option Addr) (l : List TIn) : Prop :=
  ∀ j x, l[j]? = some x → ∃ b o K c, A = some ⟨b, o, none⟩ ∧ b < B ∧ (∀ k u, (inC x K c)[k]? = some u → w.cell? ⟨b, o + j * 35 + k, none⟩ = some u) ∧ Rd w B 1 K x.key.length (ub x.key)
def RdOuts (w : World) (B : Nat) (A : Option Addr) (l : List TOut) : Prop :=
  ∀ j x, l[j]? = some x → ∃ b o, A = some ⟨b, o, none⟩ ∧ b < B ∧ ∀ k u, (outC x)[k]? = some u → w.cell? ⟨b, o + j * 33 + k, none⟩ = some u
/-- The cells cs are those of the transaction t. -/
def RdTx (w : World) (B : Nat) (cs : List Value) (t : TTx) : Prop :=
  ∃ A c A' c', cs = txC t A c A' c' ∧ RdIns w B A t.ins ∧ RdOuts w B A' t.outs

section
variable {w w' : World} {B B' : Nat} {A : Option Addr} {cs : List Value} {t : TTx} {l : List TIn} {m : List TOut}
theorem RdIns.below (h : RdIns w B A l) (hb : Below B w w') : RdIns w' B A l := fun j x hx => by
  obtain ⟨b, o, K, c, e, hlt, hc, hr⟩ := h j x hx
  exact ⟨b, o, K, c, e, hlt, fun k u hu => (hb.cell (p := ⟨b, o + j * 35 + k, none⟩) hlt).trans (hc k u hu), hr.below hb⟩
theorem RdIns.more (h : RdIns w B A l) (hB : B ≤ B') : RdIns w B' A l := fun j x hx => by
  obtain ⟨b, o, K, c, e, hlt, hc, hr⟩ := h j x hx
  exact ⟨b, o, K, c, e, by omega, hc, hr.more hB⟩
theorem RdOuts.below (h : RdOuts w B A m) (hb : Below B w w') : RdOuts w' B A m := fun j x hx => by
  obtain ⟨b, o, e, hlt, hc⟩ := h j x hx
  exact ⟨b, o, e, hlt, fun k u hu => (hb.cell (p := ⟨b, o + j * 33 + k, none⟩) hlt).trans (hc k u hu)⟩
theorem RdOuts.more (h : RdOuts w B A m) (hB : B ≤ B') : RdOuts w B' A m := fun j x hx => by
  obtain ⟨b, o, e, hlt, hc⟩ := h j x hx
  exact ⟨b, o, e, by omega, hc⟩
theorem RdTx.below (h : RdTx w B cs t) (hb : Below B w w') : RdTx w' B cs t := by
  obtain ⟨A, c, A', c', e, h1, h2⟩ := h
  exact ⟨A, c, A', c', e, h1.below hb, h2.below hb⟩
theorem RdTx.more (h : RdTx w B cs t) (hB : B ≤ B') : RdTx w B' cs t := by
  obtain ⟨A, c, A', c', e, h1, h2⟩ := h
  exact ⟨A, c, A', c', e, h1.more hB, h2.more hB⟩
theorem RdIns.nil_ (w : World) (B : Nat) (A : Option Addr) : RdIns w B A [] := fun j x h => by simp at h
theorem RdOuts.nil_ (w : World) (B : Nat) (A : Option Addr) : RdOuts w B A [] := fun j x h => by simp at h
end
theorem mem_of_get {α : Type} {l : List α} {j : Nat} {x : α} (h : l[j]? = some x) : x ∈ l := List.mem_of_getElem? h
/-- The bytes at the head of a variable's block. -/
theorem Bk.rd_part {w : World} {g ty : Nat} {cs l : List Value} {o n : Nat} (h : Bk w g ty cs.toArray) (hl : l.length = n) (hc : ∀ j u, l[j]? = some u → cs[o + j]? = some u) : Rd w w.heap.size 1 (some ⟨g, o, none⟩) n l :=
  Rd.of_cells (by omega) h.lt fun j u hu => (h.cell _).trans (by simpa using hc j u hu)
/-- 'v = append(v, xs...)' in a region that draws its order. -/
theorem st_app_at {P : Program} {w : World} {ops : Array Oper} {o : Oper} {a : Act} {K : Act → World → Prop} {Q : Exit → Act → World → Prop} {E : Prop} (hw : Region.wanted o (yielded ops a.tmps) = true) (s x : Operand) (t : TypeId)
    (ho : o.op = .call { callee := .builtin .append, args := #[s, x], argTypes := #[t, t] }) {base e sz bytes : Nat} (hE : El P t e sz bytes)
    {A : Option Addr} {n c : Nat} {xs : List Value} (hs : a.eval s = .slice A n c) (hown : Ow w base e sz A n c xs)
    {B : Nat} {A2 : Option Addr} {m c2 : Nat} {news : List Value} (hx : a.eval x = .slice A2 m c2) (hr : Rd w B sz A2 m news) (h1 : ∀ u ∈ news, u.oneCell' = true)
    (h63 : n + m ≤ maxLen) (hbytes : (n + m) * bytes ≤ 140737488355328) (hbase : base ≤ w.heap.size)
    (h : ∀ A' c' w', Ow w' base e sz A' (n + m) c' (xs ++ news) → Flow w w' A A' → K (a.put o.dst (.slice A' (n + m) c')) w') :
    if Region.wanted o (yielded ops a.tmps) = true then o.wp P a w K Q else E := by
  rw [if_pos hw]
  exact op_app_at s x t ho hE hs hown hx hr h1 h63 hbytes hbase h
theorem Ow.ub_app {w : World} {base n c : Nat} {A : Option Addr} {xs ys : List Int} (h : Ow w base 5 1 A n c (ub xs ++ ub ys)) : Ow w base 5 1 A n c (ub (xs ++ ys)) := by
  rw [ub_append]; exact h
end Go.Proofs.YtjfeehoflahblaaDoor
