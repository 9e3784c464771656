/- Transactions as plain data, their bytes, and what may be amiss with them: plain definitions and laws, no program. No conditions. -/
import Derived.Test.YtjfeehoflahblaaDoorPad
namespace Go.Proofs.YtjfeehoflahblaaDoor
open Go.RowKit

structure TIn where
  tx : List Int
  n : Int
  key : List Int
  seq : Int
  deriving DecidableEq
structure TOut where
  value : Int
  lock : List Int
  deriving DecidableEq
structure TTx where
  ver : Int
  ins : List TIn
  outs : List TOut
  time : Int
  deriving DecidableEq
/-- Bytes, and a word of 32 bits, of 64. -/
def IsB (l : List Int) : Prop := ∀ x ∈ l, 0 ≤ x ∧ x < 256
def Is32 (n : Int) : Prop := 0 ≤ n ∧ n < 4294967296
def Is64 (n : Int) : Prop := 0 ≤ n ∧ n < 18446744073709551616
structure TIn.Ok (x : TIn) : Prop where
  txl : x.tx.length = 32
  tx : IsB x.tx
  n : Is32 x.n
  key : IsB x.key
  seq : Is32 x.seq
structure TOut.Ok (x : TOut) : Prop where
  value : Is64 x.value
  lockl : x.lock.length = 32
  lock : IsB x.lock
structure TTx.Ok (t : TTx) : Prop where
  ver : Is32 t.ver
  ins : ∀ x ∈ t.ins, x.Ok
  outs : ∀ x ∈ t.outs, x.Ok
  time : Is32 t.time

/-- A number in k bytes, the lowest first. -/
def le (n : Int) : Nat → List Int
  | 0 => []
  | k + 1 => n % 256 :: le (n / 256) k
theorem le_length (n : Int) (k : Nat) : (le n k).length = k := by
  induction k generalizing n with
  | zero => rfl
  | succ k ih => simp [le, ih]
theorem le_snoc (n : Int) (k : Nat) : le n (k + 1) = le n k ++ [n / 256 ^ k % 256] := by
  induction k generalizing n with
  | zero => simp [le]
  | succ k ih =>
    rw [le, ih (n / 256), le]
    have e : n / 256 / 256 ^ k = n / 256 ^ (k + 1) := by
      rw [Int.ediv_ediv_of_nonneg (by decide), Int.pow_succ, Int.mul_comm]
    rw [e]
    rfl
/-- How many bytes a number has. -/
def lenN (n : Int) : Nat := if n < 253 then 1 else if n < 65536 then 3 else if n < 4294967296 then 5 else 9
/-- A number with its length. -/
def putB (n : Int) : List Int := if n < 253 then [n] else if n < 65536 then 253 :: le n 2 else if n < 4294967296 then 254 :: le n 4 else 255 :: le n 8
theorem putB_length (n : Int) : (putB n).length = lenN n := by
  unfold putB lenN
  split
  · rfl
  · split
    · simp [le_length]
    · split <;> simp [le_length]
theorem lenN_le (n : Int) : 1 ≤ lenN n ∧ lenN n ≤ 9 := by
  unfold lenN
  split
  · omega
  · split
    · omega
    · split <;> omega
def inB (x : TIn) : List Int := x.tx ++ (le x.n 4 ++ (putB x.key.length ++ (x.key ++ le x.seq 4)))
def outY (x : TOut) : List Int := le x.value 8 ++ x.lock
def txB (t : TTx) : List Int := le t.ver 4 ++ (putB t.ins.length ++ (t.ins.flatMap inB ++ (putB t.outs.length ++ (t.outs.flatMap outY ++ le t.time 4))))
/-- The bytes up to the k-th input; up to the k-th output. -/
def txI (t : TTx) (k : Nat) : List Int := le t.ver 4 ++ putB t.ins.length ++ (t.ins.take k).flatMap inB
def txO (t : TTx) (k : Nat) : List Int := txI t t.ins.length ++ putB t.outs.length ++ (t.outs.take k).flatMap outY
theorem flatMap_take {α : Type} (f : α → List Int) (l : List α) (k : Nat) (x : α) (h : l[k]? = some x) : (l.take (k + 1)).flatMap f = (l.take k).flatMap f ++ f x := by
  rw [List.take_add_one, h]
  simp
theorem txI_succ (t : TTx) (k : Nat) (x : TIn) (h : t.ins[k]? = some x) : txI t (k + 1) = txI t k ++ inB x := by
  unfold txI; rw [flatMap_take _ _ _ _ h]; simp
theorem txO_succ (t : TTx) (k : Nat) (x : TOut) (h : t.outs[k]? = some x) : txO t (k + 1) = txO t k ++ outY x := by
  unfold txO; rw [flatMap_take _ _ _ _ h]; simp
theorem txO_zero (t : TTx) : txO t 0 = txI t t.ins.length ++ putB t.outs.length := by simp [txO]
theorem txI_zero (t : TTx) : txI t 0 = le t.ver 4 ++ putB t.ins.length := by simp [txI]
theorem txB_eq (t : TTx) : txB t = txO t t.outs.length ++ le t.time 4 := by simp [txB, txO, txI]
theorem flatMap_take_le {α : Type} (f : α → List Int) (l : List α) (k : Nat) : ((l.take k).flatMap f).length ≤ (l.flatMap f).length := by
  conv => rhs; rw [← List.take_append_drop k l]
  rw [List.flatMap_append, List.length_append]
  omega
theorem txI_le (t : TTx) (k : Nat) : (txI t k).length + lenN t.outs.length + 4 ≤ (txB t).length := by
  have := flatMap_take_le inB t.ins k
  simp only [txI, txB, List.length_append, le_length, putB_length]
  omega
theorem txO_le (t : TTx) (k : Nat) : (txO t k).length + 4 ≤ (txB t).length := by
  have := flatMap_take_le outY t.outs k
  simp only [txI, txO, txB, List.length_append, le_length, putB_length, List.take_length]
  omega
theorem txI_in_le (t : TTx) (k : Nat) (x : TIn) (h : t.ins[k]? = some x) : (txI t k).length + (inB x).length + lenN t.outs.length + 4 ≤ (txB t).length := by
  have := txI_le t (k + 1)
  rw [txI_succ t k x h, List.length_append] at this
  omega
theorem txO_out_le (t : TTx) (k : Nat) (x : TOut) (h : t.outs[k]? = some x) : (txO t k).length + (outY x).length + 4 ≤ (txB t).length := by
  have := txO_le t (k + 1)
  rw [txO_succ t k x h, List.length_append] at this
  omega
theorem inB_length (x : TIn) (h : x.tx.length = 32) : (inB x).length = 40 + lenN x.key.length + x.key.length := by
  simp [inB, le_length, putB_length, h]; omega
theorem outY_length (x : TOut) (h : x.lock.length = 32) : (outY x).length = 40 := by simp [outY, le_length, h]
/-- The id of a transaction. -/
def txID (t : TTx) : List Int := sha (sha (txB t))
end Go.Proofs.YtjfeehoflahblaaDoor
