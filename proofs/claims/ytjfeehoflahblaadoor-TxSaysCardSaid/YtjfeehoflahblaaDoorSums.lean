/- What goes out of a transaction: the amounts, their sum, in the program and in the reference. Conditions: rows of at most 2^39 things. -/
import Derived.Test.YtjfeehoflahblaaDoorTBase
namespace Go.Proofs.YtjfeehoflahblaaDoor
open Go.RowKit

/-- All added, none: too much. -/
def sumA (acc : Int) : List Int → Option Int
  | [] => some acc
  | x :: l => if 2100000000000000 < acc + x then none else sumA (acc + x) l
def u64s (l : List Int) : List Value := l.map (Value.int .u64)
theorem u64s_one (l : List Int) : ∀ u ∈ u64s l, u.oneCell' = true := oneCell_ints _ _
theorem elQ : El Tryd.prog 118 48 1 8 := El.mk Tryd.underlying118 (z := .int .u64 0) (by kernel_rfl) rfl (by omega)
def valsP (t : TTx) : List Int := t.outs.map (·.value)
theorem valsP_length (t : TTx) : (valsP t).length = t.outs.length := by simp [valsP]
theorem valsP_take (t : TTx) (k : Nat) (x : TOut) (h : t.outs[k]? = some x) : (valsP t).take (k + 1) = (valsP t).take k ++ [x.value] := by
  rw [List.take_add_one]
  have : (valsP t)[k]? = some x.value := by simp [valsP, h]
  rw [this]; rfl
def ValsR (t : TTx) (W : World) (g1 : Nat) (cs : List Value) (v i : Value) (wr : World) : Prop :=
  ∃ (k : Nat) (A' : Option Addr) (c' : Nat), k ≤ t.outs.length ∧ i = .int .i64 k ∧ v = .slice A' k c' ∧ Ow wr W.heap.size 48 1 A' k c' (u64s ((valsP t).take k)) ∧ Bk wr g1 26 cs.toArray ∧ Below W.heap.size W wr

set_option maxRecDepth 100000 in
set_option maxHeartbeats 1000000 in
theorem values_calls (t : TTx) (A A' : Option Addr) (c c' : Nat) (w : World) (ho : RdOuts w w.heap.size A' t.outs) (hk : t.Ok) (hol : t.outs.length ≤ 549755813888) :
    Calls Tryd.prog 138 #[.agg (txC t A c A' c').toArray] w fun e w' => ∃ A1 c1, e = .returned (.slice A1 t.outs.length c1) ∧ Ow w' w.heap.size 48 1 A1 t.outs.length c1 (u64s (valsP t)) ∧ Below w.heap.size w w' := by
  have tok1 : True := trivial
  go_enter Tryd.func138, Tryd.ntmps138
  go_wp2_with (have _t := tok1; refine wp_box (o := ⟨some 1, _, _, _, _, _⟩) rfl _ _ rfl rfl ?_; intro g1 wa h1 ba ga; clear _t tok1
               have c2 : wa.cell? ⟨g1, 2, none⟩ = some (.slice A' t.outs.length c') := (h1.cell 2).trans rfl)
  have h1' : Bk wa g1 26 (txC t A c A' c').toArray := h1
  go_loopw [3, 9] (ValsR t w g1 (txC t A c A' c')) (fun _ i _ => t.outs.length - (intOf i).toNat)
  case atStart => exact ⟨0, none, 0, by omega, rfl, rfl, Ow.nil_ _ _ _ _, h1', ba⟩
  case round =>
    clear h1 h1' c2 ba
    obtain ⟨k, A3, c3, hk1, rfl, rfl, ho3, hb1, hbw⟩ := hrel
    by_cases hlt : k < t.outs.length
    · obtain ⟨x, hx⟩ : ∃ x, t.outs[k]? = some x := ⟨_, List.getElem?_eq_getElem hlt⟩
      obtain ⟨b, o, rfl, hbl, hcell⟩ := ho k x hx
      have hxk := hk.outs x (mem_of_get hx)
      have HXK := Lib.hid (And.intro hxk hx)
      have tok5 : True := trivial
      have tok12 : True := trivial
      clear hxk hx
      go_wp2_with (first
        | (have _t := tok12; refine wp_load (o := ⟨some 12, _, _, _, _, _⟩) (cs := outC x) rfl _ _ rfl agOut rfl (outC_length HXK.out.1.lockl) (fun j u hu => (hbw.cell (p := ⟨b, _, none⟩) hbl).trans (hcell j u hu)) ?_; clear _t tok12)
        | (have _t := tok5; refine wp_alloc (o := ⟨some 5, _, _, _, _, _⟩) rfl _ rfl (z := zOut) (by kernel_rfl) ?_; intro g5 wd h5 bd gd; clear _t tok5
           refine wp_store_all (cs := outC x) rfl _ (.tmp 5) _ rfl agOut rfl rfl h5 (outC_length HXK.out.1.lockl) rfl (outC_one _) ?_; intro we h5e ge
           have sw := hbw.size
           have sd := bd.size
           have se := ge.size
           have l5 := h5.lt
           have l1 := hb1.lt
           have n15 : ¬ some g1 = some g5 := by intro h; injection h with h; omega
           have b1e := (hb1.same bd).grown ge n15
           have o3e := (ho3.same bd).grown_bk h5 ge (by decide)
           have bwe : Below w.heap.size w we := (hbw.trans (bd.mono sw)).trans (grown_below ge (by omega) (by omega))
           have e0 : we.cell? ⟨g5, 0, none⟩ = some (.int .u64 x.value) := (h5e.cell 0).trans rfl
           have swe := bwe.size
           clear h5 hcell ge bd)
        | (at_builtin; refine wp_app_at rfl _ _ _ rfl elQ rfl (o3e.alloc _) rfl (Rd.new we #[.int .u64 x.value] 48 1 1 rfl) (by simp [Value.oneCell']) (by unfold maxLen; omega) (by omega) (by simp; omega) ?_; intro A4 c4 wf o4 f4))
      go_roundw
      case rel =>
        refine ⟨k + 1, A4, c4, by omega, by go_num, rfl, ?_, (b1e.alloc _).flow f4 (o3e.alloc _) (by decide), (bwe.alloc swe _).trans (f4.below (o3e.alloc _) (by simp; omega))⟩
        rw [valsP_take t k x HXK.out.2]
        simpa [u64s] using o4
      case measure => simp [intOf]; omega
    · obtain rfl : k = t.outs.length := by omega
      go_wp2_with fail
      go_ret
      refine ⟨A3, c3, rfl, ?_, hbw⟩
      rw [List.take_of_length_le (by rw [valsP_length]; exact Nat.le_refl _)] at ho3
      exact ho3

set_option maxRecDepth 100000 in
set_option maxHeartbeats 1000000 in
theorem refValues_calls (t : TTx) (A A' : Option Addr) (c c' : Nat) (w : World) (ho : RdOuts w w.heap.size A' t.outs) (hol : t.outs.length ≤ 549755813888) :
    Calls Tryd.prog 86 #[.agg (txC t A c A' c').toArray] w fun e w' => ∃ A1 c1, e = .returned (.slice A1 t.outs.length c1) ∧ Ow w' w.heap.size 48 1 A1 t.outs.length c1 (u64s (valsP t)) ∧ Below w.heap.size w w' := by
  have tok1 : True := trivial
  go_enter Tryd.func86, Tryd.ntmps86
  go_wp2_with (have _t := tok1; refine wp_box (o := ⟨some 1, _, _, _, _, _⟩) rfl _ _ rfl rfl ?_; intro g1 wa h1 ba ga; clear _t tok1)
  have h1' : Bk wa g1 26 (txC t A c A' c').toArray := h1
  go_loopw [3, 4] (ValsR t w g1 (txC t A c A' c')) (fun _ i _ => t.outs.length - (intOf i).toNat)
  case atStart => exact ⟨0, none, 0, by omega, rfl, rfl, Ow.nil_ _ _ _ _, h1', ba⟩
  case round =>
    clear h1 h1' ba
    obtain ⟨k, A3, c3, hk1, rfl, rfl, ho3, hb1, hbw⟩ := hrel
    have c2 : wr.cell? ⟨g1, 2, none⟩ = some (.slice A' t.outs.length c') := (hb1.cell 2).trans rfl
    by_cases hlt : k < t.outs.length
    · obtain ⟨x, hx⟩ : ∃ x, t.outs[k]? = some x := ⟨_, List.getElem?_eq_getElem hlt⟩
      obtain ⟨b, o, rfl, hbl, hcell⟩ := ho k x hx
      have HX := Lib.hid hx
      have hv0 : wr.cell? ⟨b, o + k * 33, none⟩ = some (.int .u64 x.value) := (hbw.cell (p := ⟨b, _, none⟩) hbl).trans (hcell 0 _ rfl)
      have sw := hbw.size
      clear hx hcell
      go_wp2_with (at_builtin; refine wp_app_at rfl _ _ _ rfl elQ rfl (ho3.alloc _) rfl (Rd.new wr #[.int .u64 x.value] 48 1 1 rfl) (by simp [Value.oneCell']) (by unfold maxLen; omega) (by omega) (by simp; omega) ?_; intro A4 c4 wf o4 f4)
      go_roundw
      case rel =>
        refine ⟨k + 1, A4, c4, by omega, by go_num, rfl, ?_, (hb1.alloc _).flow f4 (ho3.alloc _) (by decide), (hbw.alloc sw _).trans (f4.below (ho3.alloc _) (by simp; omega))⟩
        rw [valsP_take t k x HX.out]
        simpa [u64s] using o4
      case measure => simp [intOf]; omega
    · obtain rfl : k = t.outs.length := by omega
      go_wp2_with fail
      go_ret
      refine ⟨A3, c3, rfl, ?_, hbw⟩
      rw [List.take_of_length_le (by rw [valsP_length]; exact Nat.le_refl _)] at ho3
      exact ho3

/-- What a sum answers. -/
def sumV (l : List Int) : Value := match sumA 0 l with
  | some s => .tuple #[.int .u64 s, .bool true]
  | none => .tuple #[.int .u64 0, .bool false]
def SumR (l : List Int) (n : Nat) (w : World) (s i : Value) (wr : World) : Prop :=
  ∃ (k : Nat) (acc : Int), k ≤ n ∧ i = .int .i64 k ∧ s = .int .u64 acc ∧ 0 ≤ acc ∧ acc ≤ 2100000000000000 ∧ sumA 0 l = sumA acc (l.drop k) ∧ w = wr
theorem drop_get {α : Type} {l : List α} {k : Nat} {x : α} (h : l[k]? = some x) : l.drop k = x :: l.drop (k + 1) := by
  have hk := lt_of_get h
  rw [List.drop_eq_getElem_cons hk]
  rw [List.getElem?_eq_getElem hk] at h
  injection h with h
  rw [h]
set_option maxHeartbeats 1000000 in
theorem sum_u64_calls (A : Option Addr) (n c : Nat) (l : List Int) (w : World) (hr : Rd w w.heap.size 1 A n (u64s l)) (hn : n ≤ 549755813888) (hl : ∀ x ∈ l, Is64 x) :
    Calls Tryd.prog 137 #[.slice A n c] w fun e w' => e = .returned (sumV l) ∧ w' = w := by
  have hll : l.length = n := by have := hr.1; simpa [u64s] using this
  have HLL := Lib.hid hll
  clear hll
  go_enter Tryd.func137, Tryd.ntmps137
  go_wp2
  go_loopw [4, 9] (SumR l n w) (fun _ i _ => n - (intOf i).toNat)
  case atStart => exact ⟨0, 0, by omega, rfl, rfl, by omega, by omega, rfl, rfl⟩
  case round =>
    obtain ⟨k, acc, hk, rfl, rfl, a0, a1, hs, rfl⟩ := hrel
    have HS := Lib.hid hs
    clear hs
    by_cases hlt : k < n
    · obtain ⟨b, o, u, rfl, hb, hu, hc⟩ := hr.at_ hlt
      obtain ⟨x, hx⟩ : ∃ x, l[k]? = some x := ⟨_, List.getElem?_eq_getElem (by rw [HLL.out]; exact hlt)⟩
      have hux : u = .int .u64 x := by
        have : (u64s l)[k]? = some (.int .u64 x) := by simp [u64s, hx]
        rw [this] at hu; injection hu with hu; exact hu.symm
      subst hux
      have hx64 := hl x (mem_of_get hx)
      have x0 := hx64.1
      have x1 := hx64.2
      have HX := Lib.hid (drop_get hx)
      clear hu hx hx64
      by_cases hgt : 2100000000000000 < acc + x
      · have hg : 2100000000000000 - acc < x := by omega
        have HG := Lib.hid hgt
        clear hgt
        go_wp2_with fail
        refine bodyPost_ret (v := .tuple #[.int .u64 0, .bool false]) (by simp [results, Tryd.results137, go_sem]) rfl ⟨?_, rfl⟩
        rw [sumV, HS.out, HX.out, sumA, if_pos HG.out]
      · have hg : ¬ 2100000000000000 - acc < x := by omega
        have HG := Lib.hid hgt
        have hle : acc + x ≤ 2100000000000000 := by omega
        clear hgt
        go_wp2_with fail
        go_roundw
        case rel => exact ⟨k + 1, acc + x, by omega, by go_num, rfl, by omega, by omega, by rw [HS.out, HX.out, sumA, if_neg HG.out], rfl⟩
        case measure => simp [intOf]; omega
    · obtain rfl : k = n := by omega
      go_wp2_with fail
      refine bodyPost_ret (v := .tuple #[.int .u64 acc, .bool true]) (by simp [results, Tryd.results137, go_sem]) rfl ⟨?_, rfl⟩
      rw [sumV, HS.out, List.drop_of_length_le (by rw [HLL.out]; exact Nat.le_refl _), sumA]

set_option maxHeartbeats 2000000 in
theorem refSum_calls (A : Option Addr) (n c : Nat) (l : List Int) (w : World) (hr : Rd w w.heap.size 1 A n (u64s l)) (hn : n ≤ 549755813888) (hl : ∀ x ∈ l, Is64 x) :
    Calls Tryd.prog 85 #[.slice A n c] w fun e w' => e = .returned (sumV l) ∧ w' = w := by
  have hll : l.length = n := by have := hr.1; simpa [u64s] using this
  have HLL := Lib.hid hll
  clear hll
  go_enter Tryd.func85, Tryd.ntmps85
  go_wp2
  go_loopw [4, 5] (SumR l n w) (fun _ i _ => n - (intOf i).toNat)
  case atStart => exact ⟨0, 0, by omega, rfl, rfl, by omega, by omega, rfl, rfl⟩
  case round =>
    obtain ⟨k, acc, hk, rfl, rfl, a0, a1, hs, rfl⟩ := hrel
    have HS := Lib.hid hs
    clear hs
    by_cases hlt : k < n
    · obtain ⟨b, o, u, rfl, hb, hu, hc⟩ := hr.at_ hlt
      obtain ⟨x, hx⟩ : ∃ x, l[k]? = some x := ⟨_, List.getElem?_eq_getElem (by rw [HLL.out]; exact hlt)⟩
      have hux : u = .int .u64 x := by
        have : (u64s l)[k]? = some (.int .u64 x) := by simp [u64s, hx]
        rw [this] at hu; injection hu with hu; exact hu.symm
      subst hux
      have hx64 := hl x (mem_of_get hx)
      have x0 := hx64.1
      have x1 := hx64.2
      have HX := Lib.hid (drop_get hx)
      clear hu hx hx64
      by_cases hb1 : 2100000000000000 < x
      · have e1 : decide (2100000000000000 < x) = true := by simp [hb1]
        have HG := Lib.hid (show 2100000000000000 < acc + x by omega)
        go_wp2_with fail
        refine bodyPost_ret (v := .tuple #[.int .u64 0, .bool false]) (by simp [results, Tryd.results85, go_sem]) rfl ⟨?_, rfl⟩
        rw [sumV, HS.out, HX.out, sumA, if_pos HG.out]
      · have e1 : decide (2100000000000000 < x) = false := by simp; omega
        by_cases hgt : 2100000000000000 < acc + x
        · have HG := Lib.hid hgt
          go_wp2_with fail
          refine bodyPost_ret (v := .tuple #[.int .u64 0, .bool false]) (by simp [results, Tryd.results85, go_sem]) rfl ⟨?_, rfl⟩
          rw [sumV, HS.out, HX.out, sumA, if_pos HG.out]
        · have HG := Lib.hid hgt
          have hle : acc + x ≤ 2100000000000000 := by omega
          go_wp2_with fail
          go_roundw
          case rel => exact ⟨k + 1, acc + x, by omega, by go_num, rfl, by omega, by omega, by rw [HS.out, HX.out, sumA, if_neg HG.out], rfl⟩
          case measure => simp [intOf]; omega
    · obtain rfl : k = n := by omega
      go_wp2_with fail
      refine bodyPost_ret (v := .tuple #[.int .u64 acc, .bool true]) (by simp [results, Tryd.results85, go_sem]) rfl ⟨?_, rfl⟩
      rw [sumV, HS.out, List.drop_of_length_le (by rw [HLL.out]; exact Nat.le_refl _), sumA]
theorem vals64 {t : TTx} (hk : t.Ok) : ∀ x ∈ valsP t, Is64 x := by
  intro x hx
  simp only [valsP, List.mem_map] at hx
  obtain ⟨o, ho, rfl⟩ := hx
  exact (hk.outs o ho).value
set_option maxRecDepth 100000 in
theorem txSum_calls (cs : List Value) (t : TTx) (w : World) (h : RdTx w w.heap.size cs t) (hk : t.Ok) (hf : t.Fit) :
    Calls Tryd.prog 82 #[.agg cs.toArray] w fun e w' => e = .returned (sumV (valsP t)) ∧ Below w.heap.size w w' := by
  obtain ⟨A, c, A', c', rfl, h1, h2⟩ := h
  have hol := hf.o
  have tok1 : True := trivial
  have tok3 : True := trivial
  have hsv : ∃ v b, sumV (valsP t) = .tuple #[.int .u64 v, .bool b] := by
    unfold sumV
    split
    · exact ⟨_, _, rfl⟩
    · exact ⟨_, _, rfl⟩
  obtain ⟨v, b, hsv⟩ := hsv
  have HS := Lib.hid hsv
  clear hsv
  go_enter Tryd.func82, Tryd.ntmps82
  go_wp2_with (first
    | (have _t := tok1; refine wp_box (o := ⟨some 1, _, _, _, _, _⟩) rfl _ _ rfl rfl ?_; intro g1 wa h1' ba ga; clear _t tok1
       have h1q : Bk wa g1 26 (txC t A c A' c').toArray := h1')
    | (have _t := tok3; refine wp_load (o := ⟨some 4, _, _, _, _, _⟩) (cs := txC t A c A' c') rfl _ _ rfl agTx rfl rfl (Bk.all h1q) ?_; clear _t tok3))
  refine (values_calls t A A' c c' wa ((h2.below ba).more ba.size) hk hol).mono ?_
  rintro e wb ⟨A1, c1, rfl, o1, bb⟩
  go_wp2_with fail
  refine (sum_u64_calls A1 t.outs.length c1 (valsP t) wb o1.rd hol (vals64 hk)).mono ?_
  rintro e wc ⟨rfl, rfl⟩
  rw [HS.out]
  go_wp2_with fail
  exact bodyPost_ret (v := .tuple #[.int .u64 v, .bool b]) (by simp [results, Tryd.results82, go_sem]) rfl ⟨by rw [HS.out], ba.trans (bb.mono ba.size)⟩
end Go.Proofs.YtjfeehoflahblaaDoor
