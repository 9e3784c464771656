/- Numbers in few bytes: the program's and the reference's; each call answers the plain bytes. Conditions: at most 2^40 bytes. -/
import Derived.Test.YtjfeehoflahblaaDoorBytes
import Derived.Test.YtjfeehoflahblaaDoorData
namespace Go.Proofs.YtjfeehoflahblaaDoor
open Go.RowKit

/-- A row of the call's own is written on: it alone turns, and it may move to a new block. -/
def Flow (w w' : World) (A A' : Option Addr) : Prop :=
  w.grownBy w' (Value.slice A 0 0).ownBlock ∧ ((Value.slice A' 0 0).ownBlock = (Value.slice A 0 0).ownBlock ∨ ∃ g, (Value.slice A' 0 0).ownBlock = some g ∧ w.heap.size ≤ g)
theorem own0 (A : Option Addr) (n c : Nat) : (Value.slice A n c).ownBlock = (Value.slice A 0 0).ownBlock := by cases A <;> rfl
theorem Flow.refl (w : World) (A : Option Addr) : Flow w w A A := ⟨World.grownBy.refl _ _, .inl rfl⟩
theorem Flow.trans {w w1 w2 : World} {A A1 A2 : Option Addr} (h : Flow w w1 A A1) (k : Flow w1 w2 A1 A2) : Flow w w2 A A2 := by
  refine ⟨⟨k.1.os.trans h.1.os, k.1.tape.trans h.1.tape, k.1.output.trans h.1.output, Nat.le_trans h.1.size k.1.size, fun i hi hne => ?_⟩, ?_⟩
  · refine (k.1.block i (Nat.lt_of_lt_of_le hi h.1.size) ?_).trans (h.1.block i hi hne)
    rcases h.2 with e | ⟨g, e, hg⟩
    · rw [e]; exact hne
    · rw [e]; intro q; injection q with q; omega
  · rcases k.2 with e | ⟨g, e, hg⟩
    · rw [e]
      rcases h.2 with e1 | ⟨g, e1, hg⟩
      · exact .inl e1
      · exact .inr ⟨g, e1, hg⟩
    · exact .inr ⟨g, e, Nat.le_trans h.1.size hg⟩
theorem Flow.pre {w w1 w2 : World} {A A' : Option Addr} (h : Below w.heap.size w w1) (k : Flow w1 w2 A A') : Flow w w2 A A' := by
  refine ⟨⟨k.1.os.trans h.os, k.1.tape.trans h.tape, k.1.output.trans h.output, Nat.le_trans h.size k.1.size, fun i hi hne => ?_⟩, ?_⟩
  · exact (k.1.block i (Nat.lt_of_lt_of_le hi h.size) hne).trans (h.block i hi)
  · rcases k.2 with e | ⟨g, e, hg⟩
    · exact .inl e
    · exact .inr ⟨g, e, Nat.le_trans h.size hg⟩
theorem Flow.below {w w' : World} {base e sz n c : Nat} {A A' : Option Addr} {xs : List Value} (h : Flow w w' A A') (ho : Ow w base e sz A n c xs) (hB : base ≤ w.heap.size) : Below base w w' :=
  (Below.refl _ _).grown h.1 hB fun k hk => (World.ownsRow.lt ho k (by rw [own0]; exact hk)).1
theorem Bk.flow {w w' : World} {g t base e sz n c : Nat} {cs : Array Value} {A A' : Option Addr} {xs : List Value} (hg : Bk w g t cs) (h : Flow w w' A A') (ho : Ow w base e sz A n c xs) (hne : e ≠ t) : Bk w' g t cs :=
  hg.grown h.1 (by have := ho.ne_bk hg hne; rwa [own0] at this)

/-- 'v = append(v, xs...)', with where the row lies then. -/
theorem op_app_at {P : Program} {w : World} {o : Oper} {a : Act} {K : Act → World → Prop} {Q : Exit → Act → World → Prop} (s x : Operand) (t : TypeId)
    (ho : o.op = .call { callee := .builtin .append, args := #[s, x], argTypes := #[t, t] }) {base e sz bytes : Nat} (hE : El P t e sz bytes)
    {A : Option Addr} {n c : Nat} {xs : List Value} (hs : a.eval s = .slice A n c) (hown : Ow w base e sz A n c xs)
    {B : Nat} {A2 : Option Addr} {m c2 : Nat} {news : List Value} (hx : a.eval x = .slice A2 m c2) (hr : Rd w B sz A2 m news) (h1 : ∀ u ∈ news, u.oneCell' = true)
    (h63 : n + m ≤ maxLen) (hbytes : (n + m) * bytes ≤ 140737488355328) (hbase : base ≤ w.heap.size)
    (h : ∀ A' c' w', Ow w' base e sz A' (n + m) c' (xs ++ news) → Flow w w' A A' → K (a.put o.dst (.slice A' (n + m) c')) w') : o.wp P a w K Q := by
  obtain ⟨ht, i, z, hi, hz, hsize, hby, hzs, hsz⟩ := hE
  have hown0 : w.ownsRow base e sz (.slice A n c) n xs := hown
  have fin : ∀ v' w', (Builtin.append_ #[t, t] o.type #[.slice A n c, .slice A2 m c2]).run P w = .ok v' w' → w'.ownsRow base e sz v' (n + m) (xs ++ news) → w.grownBy w' (Value.slice A n c).ownBlock →
      (v'.ownBlock = (Value.slice A n c).ownBlock ∨ v'.ownBlock = some w.heap.size) → o.wp P a w K Q := by
    intro v' w' hrun h2 h3 h4
    unfold Oper.wp execOp
    simp only [ho, resolve, invoke, builtin, Sem.run_bind, Sem.run_pure, Result.andThen_ok, List.map_toArray, List.map_cons, List.map_nil, hs, hx, hrun]
    have hv : ∃ A' c', v' = .slice A' (n + m) c' := by
      rcases h2.2 with ⟨h0, hn⟩ | ⟨g, cap, cur, hv, _⟩
      · exact ⟨none, 0, by rw [h0, hn]⟩
      · exact ⟨_, _, hv⟩
    obtain ⟨A', c', rfl⟩ := hv
    rw [own0] at h3 h4
    rw [own0 A n c] at h4
    refine h A' c' w' h2 ⟨h3, ?_⟩
    rcases h4 with h4 | h4
    · exact .inl h4
    · exact .inr ⟨_, h4, Nat.le_refl _⟩
  by_cases hm : m = 0
  · subst hm
    have hn : news = [] := List.eq_nil_of_length_eq_zero (by simpa using hr.1)
    subst hn
    refine fin (.slice A n c) w ?_ (by simpa using hown0) (World.grownBy.refl w _) (.inl rfl)
    have hle := hown.le.1
    rcases hown.cases with ⟨rfl, rfl, rfl, _⟩ | ⟨g, cur, rfl, _, _, _, _⟩ <;> rcases A2 with _ | ad <;>
      simp [Builtin.append_, run_underlying ht, sizeOf, typeInfo, hi, Builtin.lenOf, Builtin.firstCells, storeCells, loadCells, loadCellsFrom, hle]
  · have hnl : 0 < news.length := by rw [hr.1]; exact Nat.mul_pos (by omega) hsz
    obtain ⟨b, off, rfl, hbB, _⟩ := hr.2 0 _ (List.getElem?_eq_getElem hnl)
    have hcells : ∀ j u, news[j]? = some u → w.cell? ((⟨b, off, none⟩ : Addr).add j) = some u := by
      intro j u hu
      have hc := hr.cells j u hu
      unfold Addr.add
      by_cases hj : j = 0
      · subst hj; simpa using hc
      · simpa [hj] using hc
    obtain ⟨v', w', hrun, h2, h3, _, h4⟩ := run_append_own_at (P := P) w base t o.type e i z sz bytes ht hi hz hsize hby hzs hsz (.slice A n c) n xs hown0 ⟨b, off, none⟩ m c2 news hr.1 hcells h1 h63 hbytes hbase
    exact fin v' w' hrun h2 h3 h4
theorem wp_app_at {P : Program} {w : World} {ops : Array Oper} {rest : List Oper} {o : Oper} {a : Act} {Q : Exit → Act → World → Prop} (hgd : o.guard = none) (s x : Operand) (t : TypeId)
    (ho : o.op = .call { callee := .builtin .append, args := #[s, x], argTypes := #[t, t] }) {base e sz bytes : Nat} (hE : El P t e sz bytes)
    {A : Option Addr} {n c : Nat} {xs : List Value} (hs : a.eval s = .slice A n c) (hown : Ow w base e sz A n c xs)
    {B : Nat} {A2 : Option Addr} {m c2 : Nat} {news : List Value} (hx : a.eval x = .slice A2 m c2) (hr : Rd w B sz A2 m news) (h1 : ∀ u ∈ news, u.oneCell' = true)
    (h63 : n + m ≤ maxLen) (hbytes : (n + m) * bytes ≤ 140737488355328) (hbase : base ≤ w.heap.size)
    (h : ∀ A' c' w', Ow w' base e sz A' (n + m) c' (xs ++ news) → Flow w w' A A' → wpList P ops Q rest (a.put o.dst (.slice A' (n + m) c')) w') : wpList P ops Q (o :: rest) a w :=
  wpList_plain hgd fun _ hK => op_app_at s x t ho hE hs hown hx hr h1 h63 hbytes hbase fun A' c' w' h2 h3 => hK _ _ (h A' c' w' h2 h3)
/-- 'v = append(v, x)' of one cell: the element lies in a block of its own. -/
theorem Ow.u8 {w : World} {base n c : Nat} {A : Option Addr} {xs : List Int} {x : Int} (h : Ow w base 5 1 A n c (ub xs ++ [Value.int .u8 x])) : Ow w base 5 1 A n c (ub (xs ++ [x])) := by
  simpa [ub] using h

theorem number_calls (base : Nat) (A : Option Addr) (n c : Nat) (xs : List Int) (v : Int) (m : Nat) (w : World) (ho : Ow w base 5 1 A n c (ub xs)) (hB : base ≤ w.heap.size) (hn : n + m ≤ 1099511627776) (hv : Is64 v) :
    Calls Tryd.prog 131 #[.slice A n c, .int .u64 v, .int .i64 m] w fun e w' => ∃ A' c', e = .returned (.slice A' (n + m) c') ∧ Ow w' base 5 1 A' (n + m) c' (ub (xs ++ le v m)) ∧ Flow w w' A A' := by
  go_enter Tryd.func131, Tryd.ntmps131
  go_wp2
  go_loopw [0, 1, 8] (fun b x i wr => ∃ (k : Nat) (A' : Option Addr) (c' : Nat), k ≤ m ∧ i = .int .i64 k ∧ x = .int .u64 (v / 256 ^ k) ∧ b = .slice A' (n + k) c' ∧ Ow wr base 5 1 A' (n + k) c' (ub (xs ++ le v k)) ∧ Flow w wr A A') (fun _ _ i _ => m - (intOf i).toNat)
  case atStart => exact ⟨0, A, c, by omega, rfl, by simp, rfl, by simpa [le] using ho, Flow.refl _ _⟩
  case round =>
    obtain ⟨k, A', c', hk, rfl, rfl, rfl, hr, hf⟩ := hrel
    by_cases hlt : k < m
    · have hq := Lib.hid (le_snoc v k)
      have hd : v / 256 ^ k / 256 = v / 256 ^ (k + 1) := by rw [Int.ediv_ediv_of_nonneg (by exact Int.le_of_lt (Int.pow_pos (by decide))), Int.pow_succ]
      have hd0 : 0 ≤ v / 256 ^ k := Int.ediv_nonneg hv.1 (Int.le_of_lt (Int.pow_pos (by decide)))
      have hd1 : v / 256 ^ k < 18446744073709551616 := Int.lt_of_le_of_lt (Int.ediv_le_self _ hv.1) hv.2
      have hsz := hf.1.size
      obtain ⟨q, hqq⟩ : ∃ q, q = v / 256 ^ k := ⟨_, rfl⟩
      rw [← hqq] at hd hd0 hd1 ⊢
      have HQ := Lib.hid hqq
      have HD := Lib.hid hd
      clear hqq hd
      go_wp2_with (at_builtin; go_must (refine wp_app_at rfl _ _ _ rfl elB rfl (hr.alloc _) rfl (Rd.new wr _ 5 1 1 rfl) (by simp [Value.oneCell']) (by unfold maxLen; omega) (by omega) (by simp; omega) ?_); intro A2 c2 w2 h3 h4)
      go_roundw
      case rel =>
        refine ⟨k + 1, A2, c2, by omega, by go_num, ?_, rfl, ?_, hf.trans (Flow.pre ((Below.refl _ _).alloc (Nat.le_refl _) _) h4)⟩
        · rw [← HD.out]
        · rw [hq.out, ← HQ.out, ← List.append_assoc]
          exact h3.u8
      case measure => simp [intOf]; omega
    · go_wp2
      go_ret
      obtain rfl : k = m := by omega
      exact ⟨A', c', rfl, hr, hf⟩

theorem len_calls (v : Int) (w : World) (hv : Is64 v) : Calls Tryd.prog 132 #[.int .u64 v] w fun e w' => e = .returned (.int .i64 (lenN v)) ∧ w = w' := by
  have h0 := hv.1
  have h1 := hv.2
  unfold lenN
  by_cases c1 : v < 253
  · go_enter Tryd.func132, Tryd.ntmps132
    go_wp2
    go_ret
    exact ⟨by simp [c1], rfl⟩
  · by_cases c2 : v < 65536
    · go_enter Tryd.func132, Tryd.ntmps132
      go_wp2
      go_ret
      exact ⟨by simp [c1, c2], rfl⟩
    · by_cases c3 : v < 4294967296
      · go_enter Tryd.func132, Tryd.ntmps132
        go_wp2
        go_ret
        exact ⟨by simp [c1, c2, c3], rfl⟩
      · go_enter Tryd.func132, Tryd.ntmps132
        go_wp2
        go_ret
        exact ⟨by simp [c1, c2, c3], rfl⟩

theorem put_calls (A : Option Addr) (n c : Nat) (xs : List Int) (v : Int) (w : World) (hr : Rd w w.heap.size 1 A n (ub xs)) (hn : n ≤ 1099511627700) (hv : Is64 v) :
    Calls Tryd.prog 72 #[.slice A n c, .int .u64 v] w fun e w' => ∃ A' c', e = .returned (.slice A' (n + lenN v) c') ∧ Ow w' w.heap.size 5 1 A' (n + lenN v) c' (ub (xs ++ putB v)) ∧ Below w.heap.size w w' := by
  have h0 := hv.1
  have h1 := hv.2
  have HV := Lib.hid hv
  have HL := fun w => len_calls v w hv
  by_cases c1 : v < 253
  · have e1 : lenN v = 1 := by simp [lenN, c1]
    have e2 : putB v = [v] := by simp [putB, c1]
    rw [e1] at HL ⊢
    rw [e2]
    have HL := Lib.hid HL
    clear e1 e2
    go_enter Tryd.func72, Tryd.ntmps72
    go_wp2_with (first
      | (go_at_call 95; refine (clone_calls A n c xs w hr ?_).mono ?_; omega; rintro e w1 ⟨A1, k1, rfl, ho1, b1⟩)
      | (go_at_call 132; refine (HL.out _).mono ?_; rintro e w2 ⟨rfl, rfl⟩)
      | (at_builtin; go_must (refine wp_app_at rfl _ _ _ rfl elB rfl (ho1.alloc _) rfl (Rd.new w1 _ 5 1 1 rfl) (by simp [Value.oneCell']) (by unfold maxLen; omega) (by omega) (by have := b1.size; simp; omega) ?_); intro A2 c2 w2 h3 h4))
    go_ret
    exact ⟨A2, c2, rfl, h3.u8, (b1.alloc b1.size _).trans (h4.below (ho1.alloc _) (by have := b1.size; simp; omega))⟩
  · by_cases c2 : v < 65536
    · have e1 : lenN v = 3 := by simp [lenN, c1, c2]
      have e2 : putB v = 253 :: le v 2 := by simp [putB, c1, c2]
      rw [e1] at HL ⊢
      rw [e2]
      have HL := Lib.hid HL
      clear e1 e2
      go_enter Tryd.func72, Tryd.ntmps72
      go_wp2_with (first
        | (go_at_call 95; refine (clone_calls A n c xs w hr ?_).mono ?_; omega; rintro e w1 ⟨A1, k1, rfl, ho1, b1⟩)
        | (go_at_call 132; refine (HL.out _).mono ?_; rintro e w2 ⟨rfl, rfl⟩)
        | (at_builtin; go_must (refine wp_app_at rfl _ _ _ rfl elB rfl (ho1.alloc _) rfl (Rd.new w1 _ 5 1 1 rfl) (by simp [Value.oneCell']) (by unfold maxLen; omega) (by omega) (by have := b1.size; simp; omega) ?_); intro A2 c2 w2 h3 h4
           have h3' := h3.u8
           have hs2 : w.heap.size ≤ w2.heap.size := by have := b1.size; have := h4.1.size; simp at this; omega)
        | (go_at_call 131; refine (number_calls w.heap.size A2 (n + 1) c2 (xs ++ [253]) v 2 w2 h3' hs2 (by omega) HV.out).mono ?_; rintro e w3 ⟨A3, c3, rfl, h5, h6⟩))
      go_ret
      refine ⟨A3, c3, rfl, ?_, (b1.alloc b1.size _).trans ((h4.below (ho1.alloc _) (by have := b1.size; simp; omega)).trans (h6.below h3' hs2))⟩
      rw [List.append_assoc] at h5
      exact h5
    · by_cases c3 : v < 4294967296
      · have e1 : lenN v = 5 := by simp [lenN, c1, c2, c3]
        have e2 : putB v = 254 :: le v 4 := by simp [putB, c1, c2, c3]
        rw [e1] at HL ⊢
        rw [e2]
        have HL := Lib.hid HL
        clear e1 e2
        go_enter Tryd.func72, Tryd.ntmps72
        go_wp2_with (first
          | (go_at_call 95; refine (clone_calls A n c xs w hr ?_).mono ?_; omega; rintro e w1 ⟨A1, k1, rfl, ho1, b1⟩)
          | (go_at_call 132; refine (HL.out _).mono ?_; rintro e w2 ⟨rfl, rfl⟩)
          | (at_builtin; go_must (refine wp_app_at rfl _ _ _ rfl elB rfl (ho1.alloc _) rfl (Rd.new w1 _ 5 1 1 rfl) (by simp [Value.oneCell']) (by unfold maxLen; omega) (by omega) (by have := b1.size; simp; omega) ?_); intro A2 c2 w2 h3 h4
             have h3' := h3.u8
             have hs2 : w.heap.size ≤ w2.heap.size := by have := b1.size; have := h4.1.size; simp at this; omega)
          | (go_at_call 131; refine (number_calls w.heap.size A2 (n + 1) c2 (xs ++ [254]) v 4 w2 h3' hs2 (by omega) HV.out).mono ?_; rintro e w3 ⟨A3, c3, rfl, h5, h6⟩))
        go_ret
        refine ⟨A3, c3, rfl, ?_, (b1.alloc b1.size _).trans ((h4.below (ho1.alloc _) (by have := b1.size; simp; omega)).trans (h6.below h3' hs2))⟩
        rw [List.append_assoc] at h5
        exact h5
      · have e1 : lenN v = 9 := by simp [lenN, c1, c2, c3]
        have e2 : putB v = 255 :: le v 8 := by simp [putB, c1, c2, c3]
        rw [e1] at HL ⊢
        rw [e2]
        have HL := Lib.hid HL
        clear e1 e2
        go_enter Tryd.func72, Tryd.ntmps72
        go_wp2_with (first
          | (go_at_call 95; refine (clone_calls A n c xs w hr ?_).mono ?_; omega; rintro e w1 ⟨A1, k1, rfl, ho1, b1⟩)
          | (go_at_call 132; refine (HL.out _).mono ?_; rintro e w2 ⟨rfl, rfl⟩)
          | (at_builtin; go_must (refine wp_app_at rfl _ _ _ rfl elB rfl (ho1.alloc _) rfl (Rd.new w1 _ 5 1 1 rfl) (by simp [Value.oneCell']) (by unfold maxLen; omega) (by omega) (by have := b1.size; simp; omega) ?_); intro A2 c2 w2 h3 h4
             have h3' := h3.u8
             have hs2 : w.heap.size ≤ w2.heap.size := by have := b1.size; have := h4.1.size; simp at this; omega)
          | (go_at_call 131; refine (number_calls w.heap.size A2 (n + 1) c2 (xs ++ [255]) v 8 w2 h3' hs2 (by omega) HV.out).mono ?_; rintro e w3 ⟨A3, c3, rfl, h5, h6⟩))
        go_ret
        refine ⟨A3, c3, rfl, ?_, (b1.alloc b1.size _).trans ((h4.below (ho1.alloc _) (by have := b1.size; simp; omega)).trans (h6.below h3' hs2))⟩
        rw [List.append_assoc] at h5
        exact h5

theorem four_calls (A : Option Addr) (n c : Nat) (xs : List Int) (v : Int) (w : World) (hr : Rd w w.heap.size 1 A n (ub xs)) (hn : n ≤ 1099511627700) (hv : Is32 v) :
    Calls Tryd.prog 71 #[.slice A n c, .int .u32 v] w fun e w' => ∃ A' c', e = .returned (.slice A' (n + 4) c') ∧ Ow w' w.heap.size 5 1 A' (n + 4) c' (ub (xs ++ le v 4)) ∧ Below w.heap.size w w' := by
  have h0 := hv.1
  have h1 := hv.2
  have hv6 : Is64 v := ⟨h0, by omega⟩
  go_enter Tryd.func71, Tryd.ntmps71
  go_wp2_with (first
    | (go_at_call 95; refine (clone_calls A n c xs w hr ?_).mono ?_; omega; rintro e w1 ⟨A1, k1, rfl, ho1, b1⟩)
    | (go_at_call 131; refine (number_calls w.heap.size A1 n k1 xs v 4 w1 ho1 b1.size (by omega) hv6).mono ?_; rintro e w3 ⟨A3, c3, rfl, h5, h6⟩))
  go_ret
  exact ⟨A3, c3, rfl, h5, b1.trans (h6.below ho1 b1.size)⟩
theorem eight_calls (A : Option Addr) (n c : Nat) (xs : List Int) (v : Int) (w : World) (hr : Rd w w.heap.size 1 A n (ub xs)) (hn : n ≤ 1099511627700) (hv : Is64 v) :
    Calls Tryd.prog 73 #[.slice A n c, .int .u64 v] w fun e w' => ∃ A' c', e = .returned (.slice A' (n + 8) c') ∧ Ow w' w.heap.size 5 1 A' (n + 8) c' (ub (xs ++ le v 8)) ∧ Below w.heap.size w w' := by
  go_enter Tryd.func73, Tryd.ntmps73
  go_wp2_with (first
    | (go_at_call 95; refine (clone_calls A n c xs w hr ?_).mono ?_; omega; rintro e w1 ⟨A1, k1, rfl, ho1, b1⟩)
    | (go_at_call 131; refine (number_calls w.heap.size A1 n k1 xs v 8 w1 ho1 b1.size (by omega) hv).mono ?_; rintro e w3 ⟨A3, c3, rfl, h5, h6⟩))
  go_ret
  exact ⟨A3, c3, rfl, h5, b1.trans (h6.below ho1 b1.size)⟩
theorem le_step {v X : Int} (k : Nat) (h : X = v / 256 ^ k % 256) {w : World} {base n c : Nat} {A : Option Addr} {xs : List Int} (ho : Ow w base 5 1 A n c (ub (xs ++ le v k) ++ [Value.int .u8 X])) : Ow w base 5 1 A n c (ub (xs ++ le v (k + 1))) := by
  rw [le_snoc, ← h, ← List.append_assoc]
  exact ho.u8

def LittleR (base n : Nat) (A : Option Addr) (xs : List Int) (v : Int) (m : Nat) (w : World) (b i : Value) (wr : World) : Prop :=
  ∃ (k : Nat) (A' : Option Addr) (c' : Nat), k ≤ m ∧ i = .int .i64 k ∧ b = .slice A' (n + k) c' ∧ Ow wr base 5 1 A' (n + k) c' (ub (xs ++ le v k)) ∧ Flow w wr A A'
theorem little_calls (base : Nat) (A : Option Addr) (n c : Nat) (xs : List Int) (v : Int) (m : Nat) (w : World) (ho : Ow w base 5 1 A n c (ub xs)) (hB : base ≤ w.heap.size) (hn : n + m ≤ 1099511627776) (hm : m ≤ 8) (hv : Is64 v) :
    Calls Tryd.prog 130 #[.slice A n c, .int .u64 v, .int .i64 m] w fun e w' => ∃ A' c', e = .returned (.slice A' (n + m) c') ∧ Ow w' base 5 1 A' (n + m) c' (ub (xs ++ le v m)) ∧ Flow w w' A A' := by
  have h0 := hv.1
  have h1 := hv.2
  go_enter Tryd.func130, Tryd.ntmps130
  go_wp2
  go_loopw [0, 7] (LittleR base n A xs v m w) (fun _ i _ => m - (intOf i).toNat)
  case atStart => exact ⟨0, A, c, by omega, rfl, rfl, by simpa [le] using ho, Flow.refl _ _⟩
  case round =>
    obtain ⟨k, A', c', hk, rfl, rfl, hr, hf⟩ := hrel
    by_cases hlt : k < m
    · have hsz := hf.1.size
      have hcase : k = 0 ∨ k = 1 ∨ k = 2 ∨ k = 3 ∨ k = 4 ∨ k = 5 ∨ k = 6 ∨ k = 7 := by omega
      rcases hcase with rfl | rfl | rfl | rfl | rfl | rfl | rfl | rfl
      · go_wp2_with (at_builtin; go_must (refine wp_app_at rfl _ _ _ rfl elB rfl (hr.alloc _) rfl (Rd.new wr _ 5 1 1 rfl) (by simp [Value.oneCell']) (by unfold maxLen; omega) (by omega) (by simp; omega) ?_); intro A2 c2 w2 h3 h4)
        go_roundw
        case rel => exact ⟨1, A2, c2, by omega, rfl, rfl, le_step 0 (by omega) h3, hf.trans (Flow.pre ((Below.refl _ _).alloc (Nat.le_refl _) _) h4)⟩
        case measure => simp [intOf] <;> omega
      · go_wp2_with (at_builtin; go_must (refine wp_app_at rfl _ _ _ rfl elB rfl (hr.alloc _) rfl (Rd.new wr _ 5 1 1 rfl) (by simp [Value.oneCell']) (by unfold maxLen; omega) (by omega) (by simp; omega) ?_); intro A2 c2 w2 h3 h4)
        go_roundw
        case rel => exact ⟨2, A2, c2, by omega, rfl, rfl, le_step 1 (by omega) h3, hf.trans (Flow.pre ((Below.refl _ _).alloc (Nat.le_refl _) _) h4)⟩
        case measure => simp [intOf] <;> omega
      · go_wp2_with (at_builtin; go_must (refine wp_app_at rfl _ _ _ rfl elB rfl (hr.alloc _) rfl (Rd.new wr _ 5 1 1 rfl) (by simp [Value.oneCell']) (by unfold maxLen; omega) (by omega) (by simp; omega) ?_); intro A2 c2 w2 h3 h4)
        go_roundw
        case rel => exact ⟨3, A2, c2, by omega, rfl, rfl, le_step 2 (by omega) h3, hf.trans (Flow.pre ((Below.refl _ _).alloc (Nat.le_refl _) _) h4)⟩
        case measure => simp [intOf] <;> omega
      · go_wp2_with (at_builtin; go_must (refine wp_app_at rfl _ _ _ rfl elB rfl (hr.alloc _) rfl (Rd.new wr _ 5 1 1 rfl) (by simp [Value.oneCell']) (by unfold maxLen; omega) (by omega) (by simp; omega) ?_); intro A2 c2 w2 h3 h4)
        go_roundw
        case rel => exact ⟨4, A2, c2, by omega, rfl, rfl, le_step 3 (by omega) h3, hf.trans (Flow.pre ((Below.refl _ _).alloc (Nat.le_refl _) _) h4)⟩
        case measure => simp [intOf] <;> omega
      · go_wp2_with (at_builtin; go_must (refine wp_app_at rfl _ _ _ rfl elB rfl (hr.alloc _) rfl (Rd.new wr _ 5 1 1 rfl) (by simp [Value.oneCell']) (by unfold maxLen; omega) (by omega) (by simp; omega) ?_); intro A2 c2 w2 h3 h4)
        go_roundw
        case rel => exact ⟨5, A2, c2, by omega, rfl, rfl, le_step 4 (by omega) h3, hf.trans (Flow.pre ((Below.refl _ _).alloc (Nat.le_refl _) _) h4)⟩
        case measure => simp [intOf] <;> omega
      · go_wp2_with (at_builtin; go_must (refine wp_app_at rfl _ _ _ rfl elB rfl (hr.alloc _) rfl (Rd.new wr _ 5 1 1 rfl) (by simp [Value.oneCell']) (by unfold maxLen; omega) (by omega) (by simp; omega) ?_); intro A2 c2 w2 h3 h4)
        go_roundw
        case rel => exact ⟨6, A2, c2, by omega, rfl, rfl, le_step 5 (by omega) h3, hf.trans (Flow.pre ((Below.refl _ _).alloc (Nat.le_refl _) _) h4)⟩
        case measure => simp [intOf] <;> omega
      · go_wp2_with (at_builtin; go_must (refine wp_app_at rfl _ _ _ rfl elB rfl (hr.alloc _) rfl (Rd.new wr _ 5 1 1 rfl) (by simp [Value.oneCell']) (by unfold maxLen; omega) (by omega) (by simp; omega) ?_); intro A2 c2 w2 h3 h4)
        go_roundw
        case rel => exact ⟨7, A2, c2, by omega, rfl, rfl, le_step 6 (by omega) h3, hf.trans (Flow.pre ((Below.refl _ _).alloc (Nat.le_refl _) _) h4)⟩
        case measure => simp [intOf] <;> omega
      · go_wp2_with (at_builtin; go_must (refine wp_app_at rfl _ _ _ rfl elB rfl (hr.alloc _) rfl (Rd.new wr _ 5 1 1 rfl) (by simp [Value.oneCell']) (by unfold maxLen; omega) (by omega) (by simp; omega) ?_); intro A2 c2 w2 h3 h4)
        go_roundw
        case rel => exact ⟨8, A2, c2, by omega, rfl, rfl, le_step 7 (by omega) h3, hf.trans (Flow.pre ((Below.refl _ _).alloc (Nat.le_refl _) _) h4)⟩
        case measure => simp [intOf] <;> omega
    · go_wp2
      go_ret
      obtain rfl : k = m := by omega
      exact ⟨A', c', rfl, hr, hf⟩
theorem refLen_calls (v : Int) (w : World) (hv : Is64 v) : Calls Tryd.prog 129 #[.int .u64 v] w fun e w' => e = .returned (.int .i64 (lenN v)) ∧ w = w' := by
  have h0 := hv.1
  have h1 := hv.2
  unfold lenN
  by_cases c1 : v < 253
  · go_enter Tryd.func129, Tryd.ntmps129
    go_wp2
    go_ret
    exact ⟨by simp [c1], rfl⟩
  · by_cases c2 : v < 65536
    · go_enter Tryd.func129, Tryd.ntmps129
      go_wp2
      go_ret
      exact ⟨by simp [c1, c2], rfl⟩
    · by_cases c3 : v < 4294967296
      · go_enter Tryd.func129, Tryd.ntmps129
        go_wp2
        go_ret
        exact ⟨by simp [c1, c2, c3], rfl⟩
      · go_enter Tryd.func129, Tryd.ntmps129
        go_wp2
        go_ret
        exact ⟨by simp [c1, c2, c3], rfl⟩

theorem refFour_calls (base : Nat) (A : Option Addr) (n c : Nat) (xs : List Int) (v : Int) (w : World) (ho : Ow w base 5 1 A n c (ub xs)) (hB : base ≤ w.heap.size) (hn : n ≤ 1099511627700) (hv : Is32 v) :
    Calls Tryd.prog 69 #[.slice A n c, .int .u32 v] w fun e w' => ∃ A' c', e = .returned (.slice A' (n + 4) c') ∧ Ow w' base 5 1 A' (n + 4) c' (ub (xs ++ le v 4)) ∧ Flow w w' A A' := by
  have h0 := hv.1
  have h1 := hv.2
  have hv6 : Is64 v := ⟨h0, by omega⟩
  go_enter Tryd.func69, Tryd.ntmps69
  go_wp2_with (go_at_call 130; refine (little_calls base A n c xs v 4 w ho hB (by omega) (by omega) hv6).mono ?_; rintro e w3 ⟨A3, c3, rfl, h5, h6⟩)
  go_ret
  exact ⟨A3, c3, rfl, h5, h6⟩
theorem refEight_calls (base : Nat) (A : Option Addr) (n c : Nat) (xs : List Int) (v : Int) (w : World) (ho : Ow w base 5 1 A n c (ub xs)) (hB : base ≤ w.heap.size) (hn : n ≤ 1099511627700) (hv : Is64 v) :
    Calls Tryd.prog 70 #[.slice A n c, .int .u64 v] w fun e w' => ∃ A' c', e = .returned (.slice A' (n + 8) c') ∧ Ow w' base 5 1 A' (n + 8) c' (ub (xs ++ le v 8)) ∧ Flow w w' A A' := by
  go_enter Tryd.func70, Tryd.ntmps70
  go_wp2_with (go_at_call 130; refine (little_calls base A n c xs v 8 w ho hB (by omega) (by omega) hv).mono ?_; rintro e w3 ⟨A3, c3, rfl, h5, h6⟩)
  go_ret
  exact ⟨A3, c3, rfl, h5, h6⟩
theorem refPut_calls (base : Nat) (A : Option Addr) (n c : Nat) (xs : List Int) (v : Int) (w : World) (ho : Ow w base 5 1 A n c (ub xs)) (hB : base ≤ w.heap.size) (hn : n ≤ 1099511627700) (hv : Is64 v) :
    Calls Tryd.prog 68 #[.slice A n c, .int .u64 v] w fun e w' => ∃ A' c', e = .returned (.slice A' (n + lenN v) c') ∧ Ow w' base 5 1 A' (n + lenN v) c' (ub (xs ++ putB v)) ∧ Flow w w' A A' := by
  have h0 := hv.1
  have h1 := hv.2
  have HV := Lib.hid hv
  have HL := fun w => refLen_calls v w hv
  by_cases c1 : v < 253
  · have e1 : lenN v = 1 := by simp [lenN, c1]
    have e2 : putB v = [v] := by simp [putB, c1]
    rw [e1] at HL ⊢
    rw [e2]
    have HL := Lib.hid HL
    clear e1 e2
    go_enter Tryd.func68, Tryd.ntmps68
    go_wp2_with (first
      | (go_at_call 129; refine (HL.out _).mono ?_; rintro e w2 ⟨rfl, rfl⟩)
      | (at_builtin; go_must (refine wp_app_at rfl _ _ _ rfl elB rfl (ho.alloc _) rfl (Rd.new w _ 5 1 1 rfl) (by simp [Value.oneCell']) (by unfold maxLen; omega) (by omega) (by simp; omega) ?_); intro A2 c2 w2 h3 h4))
    go_ret
    exact ⟨A2, c2, rfl, h3.u8, Flow.pre ((Below.refl _ _).alloc (Nat.le_refl _) _) h4⟩
  · by_cases c2 : v < 65536
    · have e1 : lenN v = 3 := by simp [lenN, c1, c2]
      have e2 : putB v = 253 :: le v 2 := by simp [putB, c1, c2]
      rw [e1] at HL ⊢
      rw [e2]
      have HL := Lib.hid HL
      clear e1 e2
      go_enter Tryd.func68, Tryd.ntmps68
      go_wp2_with (first
        | (go_at_call 129; refine (HL.out _).mono ?_; rintro e w2 ⟨rfl, rfl⟩)
        | (at_builtin; go_must (refine wp_app_at rfl _ _ _ rfl elB rfl (ho.alloc _) rfl (Rd.new w _ 5 1 1 rfl) (by simp [Value.oneCell']) (by unfold maxLen; omega) (by omega) (by simp; omega) ?_); intro A2 c2 w2 h3 h4
           have h3' := h3.u8
           have hs2 : base ≤ w2.heap.size := by have := h4.1.size; simp at this; omega)
        | (go_at_call 130; refine (little_calls base A2 (n + 1) c2 (xs ++ [253]) v 2 w2 h3' hs2 (by omega) (by omega) HV.out).mono ?_; rintro e w3 ⟨A3, c3, rfl, h5, h6⟩))
      go_ret
      refine ⟨A3, c3, rfl, ?_, (Flow.pre ((Below.refl _ _).alloc (Nat.le_refl _) _) h4).trans h6⟩
      rw [List.append_assoc] at h5
      exact h5
    · by_cases c3 : v < 4294967296
      · have e1 : lenN v = 5 := by simp [lenN, c1, c2, c3]
        have e2 : putB v = 254 :: le v 4 := by simp [putB, c1, c2, c3]
        rw [e1] at HL ⊢
        rw [e2]
        have HL := Lib.hid HL
        clear e1 e2
        go_enter Tryd.func68, Tryd.ntmps68
        go_wp2_with (first
          | (go_at_call 129; refine (HL.out _).mono ?_; rintro e w2 ⟨rfl, rfl⟩)
          | (at_builtin; go_must (refine wp_app_at rfl _ _ _ rfl elB rfl (ho.alloc _) rfl (Rd.new w _ 5 1 1 rfl) (by simp [Value.oneCell']) (by unfold maxLen; omega) (by omega) (by simp; omega) ?_); intro A2 c2 w2 h3 h4
             have h3' := h3.u8
             have hs2 : base ≤ w2.heap.size := by have := h4.1.size; simp at this; omega)
          | (go_at_call 130; refine (little_calls base A2 (n + 1) c2 (xs ++ [254]) v 4 w2 h3' hs2 (by omega) (by omega) HV.out).mono ?_; rintro e w3 ⟨A3, c3, rfl, h5, h6⟩))
        go_ret
        refine ⟨A3, c3, rfl, ?_, (Flow.pre ((Below.refl _ _).alloc (Nat.le_refl _) _) h4).trans h6⟩
        rw [List.append_assoc] at h5
        exact h5
      · have e1 : lenN v = 9 := by simp [lenN, c1, c2, c3]
        have e2 : putB v = 255 :: le v 8 := by simp [putB, c1, c2, c3]
        rw [e1] at HL ⊢
        rw [e2]
        have HL := Lib.hid HL
        clear e1 e2
        go_enter Tryd.func68, Tryd.ntmps68
        go_wp2_with (first
          | (go_at_call 129; refine (HL.out _).mono ?_; rintro e w2 ⟨rfl, rfl⟩)
          | (at_builtin; go_must (refine wp_app_at rfl _ _ _ rfl elB rfl (ho.alloc _) rfl (Rd.new w _ 5 1 1 rfl) (by simp [Value.oneCell']) (by unfold maxLen; omega) (by omega) (by simp; omega) ?_); intro A2 c2 w2 h3 h4
             have h3' := h3.u8
             have hs2 : base ≤ w2.heap.size := by have := h4.1.size; simp at this; omega)
          | (go_at_call 130; refine (little_calls base A2 (n + 1) c2 (xs ++ [255]) v 8 w2 h3' hs2 (by omega) (by omega) HV.out).mono ?_; rintro e w3 ⟨A3, c3, rfl, h5, h6⟩))
        go_ret
        refine ⟨A3, c3, rfl, ?_, (Flow.pre ((Below.refl _ _).alloc (Nat.le_refl _) _) h4).trans h6⟩
        rw [List.append_assoc] at h5
        exact h5
end Go.Proofs.YtjfeehoflahblaaDoor
