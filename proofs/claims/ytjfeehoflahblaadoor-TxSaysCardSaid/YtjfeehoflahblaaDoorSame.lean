/- The reference's equalities: each call answers whether the plain data are equal. Conditions: digests of 32 bytes, at most 2^40 bytes. -/
import Derived.Test.YtjfeehoflahblaaDoorTxID
import Derived.Deep.QuietTactic
import Derived.BigQuiet
namespace Go.Proofs.YtjfeehoflahblaaDoor
open Go.RowKit

theorem take_step {α : Type} {a b : List α} {k : Nat} {x y : α} (h : a.take k = b.take k) (hx : a[k]? = some x) (hy : b[k]? = some y) (e : x = y) : a.take (k + 1) = b.take (k + 1) := by
  rw [List.take_add_one, List.take_add_one, h, hx, hy, e]
theorem ne_at {α : Type} {a b : List α} {k : Nat} {x y : α} (hx : a[k]? = some x) (hy : b[k]? = some y) (e : ¬ x = y) : ¬ a = b := by
  intro h; rw [h, hy] at hx; injection hx with hx; exact e hx.symm
theorem take_all {α : Type} {a b : List α} {n : Nat} (ha : a.length = n) (hb : b.length = n) (h : a.take n = b.take n) : a = b := by
  rwa [List.take_of_length_le (by omega), List.take_of_length_le (by omega)] at h
theorem get_lt {α : Type} {l : List α} {n k : Nat} (h : l.length = n) (hk : k < n) : ∃ x, l[k]? = some x := ⟨_, List.getElem?_eq_getElem (by omega)⟩

def SameHashR (a b : List Int) (w : World) (g2 g3 : Nat) (i : Value) (wr : World) : Prop :=
  ∃ k : Nat, k ≤ 32 ∧ i = .int .i64 k ∧ a.take k = b.take k ∧ Bk wr g2 35 (ub a).toArray ∧ Bk wr g3 35 (ub b).toArray ∧ Below w.heap.size w wr
set_option maxRecDepth 100000 in
theorem sameHash_calls (a b : List Int) (w : World) (ha : a.length = 32) (hb : b.length = 32) :
    Calls Tryd.prog 18 #[.agg (ub a).toArray, .agg (ub b).toArray] w fun e w' => e = .returned (.bool (decide (a = b))) ∧ Below w.heap.size w w' := by
  have HA := Lib.hid (And.intro ha hb)
  clear ha hb
  go_enter Tryd.func18, Tryd.ntmps18
  go_wp2_with (first
    | (refine wp_box (o := ⟨some 2, _, _, _, _, _⟩) rfl _ _ rfl rfl ?_; intro g2 wa h2 ba ga)
    | (refine wp_box (o := ⟨some 3, _, _, _, _, _⟩) rfl _ _ rfl rfl ?_; intro g3 wb h3 bb gb))
  have h2' : Bk wb g2 35 (ub a).toArray := h2.same bb
  have h3' : Bk wb g3 35 (ub b).toArray := h3
  have bwb := ba.trans (bb.mono ba.size)
  clear h2 h3 ba bb
  go_loopw [5] (SameHashR a b w g2 g3) (fun i _ => 32 - (intOf i).toNat)
  case atStart => exact ⟨0, by omega, rfl, rfl, h2', h3', bwb⟩
  case round =>
    clear h2' h3' bwb
    obtain ⟨k, hk, rfl, htk, h2, h3, hbw⟩ := hrel
    have HT := Lib.hid htk
    clear htk
    by_cases hlt : k < 32
    · obtain ⟨x, hx⟩ := get_lt HA.out.1 hlt
      obtain ⟨y, hy⟩ := get_lt HA.out.2 hlt
      have cx : wr.cell? ⟨g2, k, none⟩ = some (.int .u8 x) := (h2.cell k).trans (by simp [ub, hx])
      have cy : wr.cell? ⟨g3, k, none⟩ = some (.int .u8 y) := (h3.cell k).trans (by simp [ub, hy])
      have HX := Lib.hid (And.intro hx hy)
      have j0 : (0 : Int) ≤ (k : Int) := by omega
      have j1 : (k : Int) < 32 := by omega
      clear hx hy
      by_cases hxy : x = y
      · have e1 : (x != y) = false := by simp [hxy]
        have HXY := Lib.hid hxy
        clear hxy
        go_wp2_with fail
        go_quiet (fail)
        go_wp2
        go_roundw
        case rel => exact ⟨k + 1, by omega, by go_num, take_step HT.out HX.out.1 HX.out.2 HXY.out, h2.drewN _, h3.drewN _, bl_drewN hbw _⟩
        case measure => simp [intOf]; omega
      · have e1 : (x != y) = true := by simp [hxy]
        have HXY := Lib.hid hxy
        clear hxy
        go_wp2_with fail
        go_quiet (fail)
        go_wp2
        go_ret
        exact ⟨by rw [decide_eq_false (ne_at HX.out.1 HX.out.2 HXY.out)]; rfl, bl_drewN hbw _⟩
    · obtain rfl : k = 32 := by omega
      go_wp2
      go_ret
      exact ⟨by rw [decide_eq_true (take_all HA.out.1 HA.out.2 HT.out)]; rfl, hbw⟩

def SameBytesR (xs ys : List Int) (w : World) (n : Nat) (i : Value) (wr : World) : Prop :=
  ∃ k : Nat, k ≤ n ∧ i = .int .i64 k ∧ xs.take k = ys.take k ∧ Below w.heap.size w wr
set_option maxRecDepth 100000 in
theorem sameBytes_calls (A A' : Option Addr) (n m c c' : Nat) (xs ys : List Int) (w : World) (hx : Rd w w.heap.size 1 A n (ub xs)) (hy : Rd w w.heap.size 1 A' m (ub ys)) (hn : n ≤ 1099511627776) (hm : m ≤ 1099511627776) :
    Calls Tryd.prog 15 #[.slice A n c, .slice A' m c'] w fun e w' => e = .returned (.bool (decide (xs = ys))) ∧ Below w.heap.size w w' := by
  have HA := Lib.hid (And.intro (rd_len hx) (rd_len hy))
  by_cases hnm : n = m
  · subst hnm
    go_enter Tryd.func15, Tryd.ntmps15
    go_wp2
    go_loopw [5] (SameBytesR xs ys w n) (fun i _ => n - (intOf i).toNat)
    case atStart => exact ⟨0, by omega, rfl, rfl, Below.refl _ _⟩
    case round =>
      obtain ⟨k, hk, rfl, htk, hbw⟩ := hrel
      have HT := Lib.hid htk
      clear htk
      by_cases hlt : k < n
      · obtain ⟨x, hx1⟩ := get_lt HA.out.1 hlt
        obtain ⟨y, hy1⟩ := get_lt HA.out.2 hlt
        obtain ⟨b, o, u, rfl, hb, hu, hcx⟩ := hx.at_ hlt
        obtain ⟨b', o', u', rfl, hb', hu', hcy⟩ := hy.at_ hlt
        have eu : u = .int .u8 x := by have : (ub xs)[k]? = some (.int .u8 x) := by simp [ub, hx1]
                                       rw [this] at hu; injection hu with hu; exact hu.symm
        have eu' : u' = .int .u8 y := by have : (ub ys)[k]? = some (.int .u8 y) := by simp [ub, hy1]
                                         rw [this] at hu'; injection hu' with hu'; exact hu'.symm
        subst eu; subst eu'
        have cx : wr.cell? ⟨b, o + k, none⟩ = some (.int .u8 x) := (hbw.cell (p := ⟨b, o + k, none⟩) hb).trans hcx
        have cy : wr.cell? ⟨b', o' + k, none⟩ = some (.int .u8 y) := (hbw.cell (p := ⟨b', o' + k, none⟩) hb').trans hcy
        have HX := Lib.hid (And.intro hx1 hy1)
        have j0 : (0 : Int) ≤ (k : Int) := by omega
        have j1 : (k : Int) < (n : Int) := by omega
        clear hx1 hy1 hu hu' hcx hcy
        by_cases hxy : x = y
        · have e1 : (x == y) = true := by simp [hxy]
          have HXY := Lib.hid hxy
          clear hxy
          go_wp2_with fail
          go_quiet (fail)
          go_wp2
          go_roundw
          case rel => exact ⟨k + 1, by omega, by go_num, take_step HT.out HX.out.1 HX.out.2 HXY.out, bl_drewN hbw _⟩
          case measure => simp [intOf]; omega
        · have e1 : (x == y) = false := by simp [hxy]
          have HXY := Lib.hid hxy
          clear hxy
          go_wp2_with fail
          go_quiet (fail)
          go_wp2
          go_ret
          exact ⟨by rw [decide_eq_false (ne_at HX.out.1 HX.out.2 HXY.out)]; rfl, bl_drewN hbw _⟩
      · obtain rfl : k = n := by omega
        go_wp2
        go_ret
        exact ⟨by rw [decide_eq_true (take_all HA.out.1 HA.out.2 HT.out)]; rfl, hbw⟩
  · have hd : ¬ xs = ys := by intro e; rw [e] at HA; exact hnm (HA.out.1.symm.trans HA.out.2)
    have HD := Lib.hid hd
    have hnm' : ¬ (n : Int) = (m : Int) := by omega
    clear hd
    go_enter Tryd.func15, Tryd.ntmps15
    go_wp2
    go_ret
    exact ⟨by rw [decide_eq_false HD.out]; rfl, Below.refl _ _⟩

/-- A point's cells. -/
def pC (tx : List Int) (n : Int) : List Value := ub tx ++ [.int .u32 n]
theorem pC_32 {tx : List Int} (h : tx.length = 32) (n : Int) : (pC tx n)[32]? = some (.int .u32 n) := by
  unfold pC; rw [List.getElem?_append_right (by simp [ub_length, h])]; simp [ub_length, h]
theorem pC_lt {tx : List Int} {n : Int} {j : Nat} {u : Value} (hu : (ub tx)[j]? = some u) : (pC tx n)[j]? = some u := by
  unfold pC
  rw [List.getElem?_append_left]
  · exact hu
  · rcases Nat.lt_or_ge j (ub tx).length with h | h
    · exact h
    · rw [List.getElem?_eq_none h] at hu; cases hu
theorem pC_length {tx : List Int} (h : tx.length = 32) (n : Int) : (pC tx n).length = 33 := by simp [pC, ub_length, h]
theorem agPoint : Ag Tryd.prog 55 33 := ⟨_, Tryd.underlying55, rfl, by kernel_rfl⟩
/-- Some cells of a variable's block. -/
theorem Bk.sub {w : World} {g t : Nat} {cs l : List Value} {o : Nat} (h : Bk w g t cs.toArray) (hc : ∀ j u, l[j]? = some u → cs[o + j]? = some u) : ∀ j u, l[j]? = some u → w.cell? ⟨g, o + j, none⟩ = some u := fun j u hu => (h.cell _).trans (by simpa using hc j u hu)

set_option maxRecDepth 100000 in
set_option maxHeartbeats 1000000 in
theorem samePoint_calls (a b : List Int) (n m : Int) (w : World) (ha : a.length = 32) (hb : b.length = 32) :
    Calls Tryd.prog 77 #[.agg (pC a n).toArray, .agg (pC b m).toArray] w fun e w' => e = .returned (.bool (decide (a = b ∧ n = m))) ∧ Below w.heap.size w w' := by
  have HA := Lib.hid (And.intro ha hb)
  clear ha hb
  have n32 := Lib.hid (And.intro (pC_32 HA.out.1 n) (pC_32 HA.out.2 m))
  have HH := fun w => sameHash_calls a b w HA.out.1 HA.out.2
  by_cases hab : a = b
  all_goals
    by_cases hnm : n = m
    all_goals
      first | rw [decide_eq_true hab] at HH | rw [decide_eq_false hab] at HH
      first | have e1 : (n == m) = true := by simp [hnm] | have e1 : (n == m) = false := by simp [hnm]
      first | have hd : decide (a = b ∧ n = m) = true := by simp [hab, hnm] | have hd : decide (a = b ∧ n = m) = false := by simp [hab, hnm]
      have HD := Lib.hid hd
      have HQ := Lib.hid HH
      clear hab hnm HH hd
      go_enter Tryd.func77, Tryd.ntmps77
      go_wp2_with (first
        | (refine wp_box (o := ⟨some 2, _, _, _, _, _⟩) rfl _ _ rfl rfl ?_; intro g2 wa h2 ba ga)
        | (refine wp_box (o := ⟨some 3, _, _, _, _, _⟩) rfl _ _ rfl rfl ?_; intro g3 wb h3 bb gb
           have h2' : Bk wb g2 55 (pC a n).toArray := h2.same bb
           have h3' : Bk wb g3 55 (pC b m).toArray := h3
           have bwb := ba.trans (bb.mono ba.size))
        | (refine wp_load (o := ⟨some 6, _, _, _, _, _⟩) (cs := ub a) rfl _ _ rfl ag32 rfl (by rw [ub_length, HA.out.1]) (h2'.sub (o := 0) (fun j u hu => by rw [Nat.zero_add]; exact pC_lt hu)) ?_)
        | (refine wp_load (o := ⟨some 8, _, _, _, _, _⟩) (cs := ub b) rfl _ _ rfl ag32 rfl (by rw [ub_length, HA.out.2]) (h3'.sub (o := 0) (fun j u hu => by rw [Nat.zero_add]; exact pC_lt hu)) ?_))
      refine (HQ.out _).mono ?_
      rintro e wc ⟨rfl, bc⟩
      have c2 : wc.cell? ⟨g2, 32, none⟩ = some (.int .u32 n) := ((h2'.same bc).cell 32).trans (by simpa using n32.out.1)
      have c3 : wc.cell? ⟨g3, 32, none⟩ = some (.int .u32 m) := ((h3'.same bc).cell 32).trans (by simpa using n32.out.2)
      clear h2' h3' h2 h3
      go_wp2_with fail
      go_ret
      exact ⟨by rw [HD.out]; rfl, bwb.trans (bc.mono bwb.size)⟩

theorem inC_pt {x : TIn} (h : x.tx.length = 32) (K : Option Addr) (c : Nat) {j : Nat} {u : Value} (hu : (pC x.tx x.n)[j]? = some u) : (inC x K c)[j]? = some u := by
  have e : inC x K c = pC x.tx x.n ++ [.slice K x.key.length c, .int .u32 x.seq] := by simp [inC, pC]
  rw [e, List.getElem?_append_left]
  · exact hu
  · rcases Nat.lt_or_ge j (pC x.tx x.n).length with h | h
    · exact h
    · rw [List.getElem?_eq_none h] at hu; cases hu
theorem tin_eq (x y : TIn) : x = y ↔ (x.tx = y.tx ∧ x.n = y.n) ∧ x.key = y.key ∧ x.seq = y.seq := by
  cases x; cases y; simp [and_assoc]
set_option maxRecDepth 100000 in
set_option maxHeartbeats 2000000 in
theorem sameIn_calls (x y : TIn) (K K' : Option Addr) (c c' : Nat) (w : World) (hx : x.tx.length = 32) (hy : y.tx.length = 32) (rx : Rd w w.heap.size 1 K x.key.length (ub x.key)) (ry : Rd w w.heap.size 1 K' y.key.length (ub y.key))
    (lx : x.key.length ≤ 1099511627776) (ly : y.key.length ≤ 1099511627776) :
    Calls Tryd.prog 91 #[.agg (inC x K c).toArray, .agg (inC y K' c').toArray] w fun e w' => e = .returned (.bool (decide (x = y))) ∧ Below w.heap.size w w' := by
  have HA := Lib.hid (And.intro hx hy)
  clear hx hy
  have HX := Lib.hid (And.intro (inC_33 HA.out.1 K c) (inC_34 HA.out.1 K c))
  have HY := Lib.hid (And.intro (inC_33 HA.out.2 K' c') (inC_34 HA.out.2 K' c'))
  have HH := fun w => samePoint_calls x.tx y.tx x.n y.n w HA.out.1 HA.out.2
  by_cases hab : x.tx = y.tx ∧ x.n = y.n
  all_goals
    first | rw [decide_eq_true hab] at HH | rw [decide_eq_false hab] at HH
    have HQ := Lib.hid HH
    have HAB := Lib.hid hab
    clear hab HH
    go_enter Tryd.func91, Tryd.ntmps91
    go_wp2_with (first
      | (refine wp_box (o := ⟨some 2, _, _, _, _, _⟩) rfl _ _ rfl rfl ?_; intro g2 wa h2 ba ga)
      | (refine wp_box (o := ⟨some 3, _, _, _, _, _⟩) rfl _ _ rfl rfl ?_; intro g3 wb h3 bb gb
         have h2' : Bk wb g2 57 (inC x K c).toArray := h2.same bb
         have h3' : Bk wb g3 57 (inC y K' c').toArray := h3
         have bwb := ba.trans (bb.mono ba.size))
      | (refine wp_load (o := ⟨some 6, _, _, _, _, _⟩) (cs := pC x.tx x.n) rfl _ _ rfl agPoint rfl (pC_length HA.out.1 _) (h2'.sub (o := 0) (fun j u hu => by rw [Nat.zero_add]; exact inC_pt HA.out.1 _ _ hu)) ?_)
      | (refine wp_load (o := ⟨some 8, _, _, _, _, _⟩) (cs := pC y.tx y.n) rfl _ _ rfl agPoint rfl (pC_length HA.out.2 _) (h3'.sub (o := 0) (fun j u hu => by rw [Nat.zero_add]; exact inC_pt HA.out.2 _ _ hu)) ?_))
    refine (HQ.out _).mono ?_
    rintro e wc ⟨rfl, bc⟩
    have d2 := h2'.same bc
    have d3 := h3'.same bc
    have bwc := bwb.trans (bc.mono bwb.size)
    have c2 : wc.cell? ⟨g2, 33, none⟩ = some (.slice K x.key.length c) := (d2.cell 33).trans (by simpa using HX.out.1)
    have c3 : wc.cell? ⟨g3, 33, none⟩ = some (.slice K' y.key.length c') := (d3.cell 33).trans (by simpa using HY.out.1)
    clear h2' h3' h2 h3
    go_wp2_with fail
  · by_cases hk : x.key = y.key
    all_goals
      have HB := sameBytes_calls K K' x.key.length y.key.length c c' x.key y.key wc ((rx.below bwc).more bwc.size) ((ry.below bwc).more bwc.size) lx ly
      first | rw [decide_eq_true hk] at HB | rw [decide_eq_false hk] at HB
      have HK := Lib.hid hk
      clear hk
      refine HB.mono ?_
      rintro e wd ⟨rfl, bd⟩
      have f2 : wd.cell? ⟨g2, 34, none⟩ = some (.int .u32 x.seq) := ((d2.same bd).cell 34).trans (by simpa using HX.out.2)
      have f3 : wd.cell? ⟨g3, 34, none⟩ = some (.int .u32 y.seq) := ((d3.same bd).cell 34).trans (by simpa using HY.out.2)
      clear HB d2 d3 c2 c3
    · by_cases hs : x.seq = y.seq
      all_goals
        first | have e1 : (x.seq == y.seq) = true := by simp [hs] | have e1 : (x.seq == y.seq) = false := by simp [hs]
        have HS := Lib.hid hs
        clear hs
        go_wp2_with fail
        go_ret
      · exact ⟨by rw [decide_eq_true ((tin_eq x y).2 ⟨HAB.out, HK.out, HS.out⟩)]; rfl, bwc.trans (bd.mono bwc.size)⟩
      · exact ⟨by rw [decide_eq_false (fun h => HS.out ((tin_eq x y).1 h).2.2)]; rfl, bwc.trans (bd.mono bwc.size)⟩
    · go_wp2_with fail
      go_ret
      exact ⟨by rw [decide_eq_false (fun h => HK.out ((tin_eq x y).1 h).2.1)]; rfl, bwc.trans (bd.mono bwc.size)⟩
  · go_ret
    exact ⟨by rw [decide_eq_false (fun h => HAB.out ((tin_eq x y).1 h).1)]; rfl, bwc⟩

/-- A row loaded under a guard that lets it by. -/
theorem wp_load_g {P : Program} {w : World} {ops : Array Oper} {rest : List Oper} {o : Oper} {a : Act} {Q : Exit → Act → World → Prop} (hw : Region.wanted o (yielded ops a.tmps) = true) (ty : Nat) (x : Operand) (ho : o.op = .load ty x) {n : Nat} (hA : Ag P ty n) {b off : Nat} (hx : a.eval x = .pointer (some ⟨b, off, none⟩)) {cs : List Value} (hl : cs.length = n)
    (hc : ∀ j u, cs[j]? = some u → w.cell? ⟨b, off + j, none⟩ = some u) (h : wpList P ops Q rest (a.put o.dst (.agg cs.toArray)) w) : wpList P ops Q (o :: rest) a w :=
  wpList_step fun K hK => by rw [if_pos hw]; exact op_load ty x ho hA hx hl hc (hK _ _ h)
theorem tout_eq (x y : TOut) : x = y ↔ x.value = y.value ∧ x.lock = y.lock := by
  cases x; cases y; simp
set_option maxRecDepth 100000 in
set_option maxHeartbeats 2000000 in
theorem sameOut_calls (x y : TOut) (w : World) (hx : x.lock.length = 32) (hy : y.lock.length = 32) :
    Calls Tryd.prog 92 #[.agg (outC x).toArray, .agg (outC y).toArray] w fun e w' => e = .returned (.bool (decide (x = y))) ∧ Below w.heap.size w w' := by
  have HA := Lib.hid (And.intro hx hy)
  clear hx hy
  by_cases hv : x.value = y.value
  all_goals
    first | have e1 : (x.value == y.value) = true := by simp [hv] | have e1 : (x.value == y.value) = false := by simp [hv]
    have HV := Lib.hid hv
    clear hv
    go_enter Tryd.func92, Tryd.ntmps92
    go_wp2_with (first
      | (refine wp_box (o := ⟨some 2, _, _, _, _, _⟩) rfl _ _ rfl rfl ?_; intro g2 wa h2 ba ga)
      | (refine wp_box (o := ⟨some 3, _, _, _, _, _⟩) rfl _ _ rfl rfl ?_; intro g3 wb h3 bb gb
         have h2' : Bk wb g2 59 (outC x).toArray := h2.same bb
         have h3' : Bk wb g3 59 (outC y).toArray := h3
         have bwb := ba.trans (bb.mono ba.size)
         have c2 : wb.cell? ⟨g2, 0, none⟩ = some (.int .u64 x.value) := (h2'.cell 0).trans rfl
         have c3 : wb.cell? ⟨g3, 0, none⟩ = some (.int .u64 y.value) := (h3'.cell 0).trans rfl
         clear h2 h3)
      | (refine wp_load_g (o := ⟨some 12, _, _, _, _, _⟩) (by rfl) _ _ rfl ag32 rfl (cs := ub x.lock) (by rw [ub_length, HA.out.1]) (h2'.sub (o := 1) (fun j u hu => by rw [Nat.add_comm]; simpa [outC] using hu)) ?_)
      | (refine wp_load_g (o := ⟨some 14, _, _, _, _, _⟩) (by rfl) _ _ rfl ag32 rfl (cs := ub y.lock) (by rw [ub_length, HA.out.2]) (h3'.sub (o := 1) (fun j u hu => by rw [Nat.add_comm]; simpa [outC] using hu)) ?_))
  · have HH := sameHash_calls x.lock y.lock wb HA.out.1 HA.out.2
    by_cases hk : x.lock = y.lock
    all_goals
      first | rw [decide_eq_true hk] at HH | rw [decide_eq_false hk] at HH
      have HK := Lib.hid hk
      clear hk
      refine HH.mono ?_
      rintro e wd ⟨rfl, bd⟩
      clear HH
      go_wp2_with fail
      go_ret
    · exact ⟨by rw [decide_eq_true ((tout_eq x y).2 ⟨HV.out, HK.out⟩)]; rfl, bwb.trans (bd.mono bwb.size)⟩
    · exact ⟨by rw [decide_eq_false (fun h => HK.out ((tout_eq x y).1 h).2)]; rfl, bwb.trans (bd.mono bwb.size)⟩
  · go_ret
    exact ⟨by rw [decide_eq_false (fun h => HV.out ((tout_eq x y).1 h).1)]; rfl, bwb⟩
end Go.Proofs.YtjfeehoflahblaaDoor
