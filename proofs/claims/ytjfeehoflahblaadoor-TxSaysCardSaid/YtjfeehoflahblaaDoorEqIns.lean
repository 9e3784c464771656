/- Whether two rows of inputs are the same: the library's EqualFunc at the program's closure. Conditions: rows of at most 2^39 things. -/
import Derived.Test.YtjfeehoflahblaaDoorEqIn
namespace Go.Proofs.YtjfeehoflahblaaDoor
open Go.RowKit

def EqInsR (l m : List TIn) (w : World) (i : Value) (wr : World) : Prop := ∃ k : Nat, k ≤ l.length ∧ i = .int .i64 k ∧ (∀ j, j < k → l[j]? = m[j]?) ∧ Below w.heap.size w wr
theorem eq_of_gets {l m : List TIn} (hl : l.length = m.length) (h : ∀ j, j < l.length → l[j]? = m[j]?) : l = m := by
  apply List.ext_getElem?
  intro j
  rcases Nat.lt_or_ge j l.length with h1 | h1
  · exact h j h1
  · rw [List.getElem?_eq_none h1, List.getElem?_eq_none (by omega)]
set_option maxRecDepth 100000 in
set_option maxHeartbeats 1000000 in
theorem eqIns_calls (l m : List TIn) (A B : Option Addr) (c d : Nat) (w : World) (hi : RdIns w w.heap.size A l) (hj : RdIns w w.heap.size B m) (hk : ∀ x ∈ l, x.Ok) (hkm : ∀ x ∈ m, x.Ok) (hl : l.length ≤ 549755813888) (hm : m.length ≤ 549755813888) :
    Calls Tryd.prog 88 #[.slice A l.length c, .slice B m.length d, .func (.func 89) #[] #[]] w fun e w' => e = .returned (.bool (decide (l = m))) ∧ Below w.heap.size w w' := by
  by_cases hlm : l.length = m.length
  · go_enter Tryd.func88, Tryd.ntmps88
    go_wp2
    go_loopw [17] (EqInsR l m w) (fun i _ => l.length - (intOf i).toNat)
    case atStart => exact ⟨0, by omega, rfl, fun j hj => by omega, Below.refl _ _⟩
    case round =>
      obtain ⟨k, hk1, rfl, hn, hbw⟩ := hrel
      have HN := Lib.hid hn
      clear hn
      by_cases hlt : k < l.length
      · obtain ⟨x, hx⟩ : ∃ x, l[k]? = some x := ⟨_, List.getElem?_eq_getElem hlt⟩
        obtain ⟨y, hy⟩ : ∃ y, m[k]? = some y := ⟨_, List.getElem?_eq_getElem (by omega)⟩
        obtain ⟨b, o, K, kc, rfl, hbl, hcell, hkey⟩ := hi k x hx
        obtain ⟨b2, o2, K2, kc2, rfl, hbl2, hcell2, hkey2⟩ := hj k y hy
        have HX := Lib.hid (And.intro hx (hk x (mem_of_get hx)))
        have HY := Lib.hid (And.intro hy (hkm y (mem_of_get hy)))
        have j0 : (0 : Int) ≤ (k : Int) := by omega
        have j1 : (k : Int) < (l.length : Int) := by omega
        have j2 : (k : Int) < (m.length : Int) := by omega
        have tok21 : True := trivial
        have tok8 : True := trivial
        have tok25 : True := trivial
        have tok9 : True := trivial
        have tok27 : True := trivial
        have tok28 : True := trivial
        have sw := hbw.size
        have HLM := Lib.hid hlm
        clear hx hy hlm
        go_wp2_with (first
          | (have _t := tok21; refine wp_load (o := ⟨some 21, _, _, _, _, _⟩) (cs := inC x K kc) rfl _ _ rfl agIn rfl (inC_length HX.out.2.txl _ _) (fun j u hu => (hbw.cell (p := ⟨b, _, none⟩) hbl).trans (hcell j u hu)) ?_; clear _t tok21)
          | (have _t := tok8; refine wp_alloc (o := ⟨some 8, _, _, _, _, _⟩) rfl _ rfl (z := zIn) (by kernel_rfl) ?_; intro g5 wd h5 bd gd; clear _t tok8)
          | (have _t := tok25; refine wp_store_all (cs := inC x K kc) rfl _ (.tmp 8) _ rfl agIn rfl rfl h5 (inC_length HX.out.2.txl _ _) rfl (inC_one _ _ _) ?_; intro we h5e ge
             have sd := bd.size
             have bwe : Below w.heap.size w we := (hbw.trans (bd.mono sw)).trans (grown_below ge (by omega) (by omega))
             clear _t h5 ge bd)
          | (have _t := tok25; refine wp_load (o := ⟨some 25, _, _, _, _, _⟩) (cs := inC y K2 kc2) rfl _ _ rfl agIn rfl (inC_length HY.out.2.txl _ _) (fun j u hu => (bwe.cell (p := ⟨b2, _, none⟩) hbl2).trans (hcell2 j u hu)) ?_; clear _t tok25)
          | (have _t := tok9; refine wp_alloc (o := ⟨some 9, _, _, _, _, _⟩) rfl _ rfl (z := zIn) (by kernel_rfl) ?_; intro g6 wf h6 bf gf; clear _t tok9
             refine wp_store_all (cs := inC y K2 kc2) rfl _ (.tmp 9) _ rfl agIn rfl rfl h6 (inC_length HY.out.2.txl _ _) rfl (inC_one _ _ _) ?_; intro wg h6g gg
             have sf := bf.size
             have se := bwe.size
             have l5 := h5e.lt
             have l6 := h6.lt
             have h5g := (h5e.same bf).grown gg (by intro h; injection h with h; omega)
             have bwg : Below w.heap.size w wg := (bwe.trans (bf.mono se)).trans (grown_below gg (by omega) (by omega))
             clear h6 gg bf)
          | (have _t := tok27; refine wp_load (o := ⟨some 27, _, _, _, _, _⟩) (cs := inC x K kc) rfl _ _ rfl agIn rfl (inC_length HX.out.2.txl _ _) (Bk.all h5g) ?_; clear _t tok27)
          | (have _t := tok28; refine wp_load (o := ⟨some 28, _, _, _, _, _⟩) (cs := inC y K2 kc2) rfl _ _ rfl agIn rfl (inC_length HY.out.2.txl _ _) (Bk.all h6g) ?_; clear _t tok28))
        refine (same1_calls x y K K2 kc kc2 w.heap.size w.heap.size wg HX.out.2 HY.out.2 (hkey.below bwg) (hkey2.below bwg) bwg.size bwg.size).mono ?_
        rintro e wh ⟨rfl, bh⟩
        have bwh := bwg.trans (bh.mono bwg.size)
        by_cases hp : x = y
        · rw [decide_eq_true hp]
          go_wp2_with fail
          go_roundw
          case rel =>
            refine ⟨k + 1, by omega, by go_num, fun j hj => ?_, bwh⟩
            rcases Nat.lt_or_ge j k with h | h
            · exact HN.out j h
            · obtain rfl : j = k := by omega
              rw [HX.out.1, HY.out.1, hp]
          case measure => simp [intOf]; omega
        · have hd : decide (l = m) = false := decide_eq_false (fun h => hp (by
            have h1 := HX.out.1
            rw [h, HY.out.1] at h1
            injection h1 with h1
            exact h1.symm))
          have HD := Lib.hid hd
          clear hd
          rw [decide_eq_false hp]
          go_wp2_with fail
          go_ret
          exact ⟨by rw [HD.out]; rfl, bwh⟩
      · obtain rfl : k = l.length := by omega
        have hd : decide (l = m) = true := by rw [eq_of_gets hlm HN.out]; simp
        have HD := Lib.hid hd
        clear hd
        go_wp2_with fail
        go_ret
        exact ⟨by rw [HD.out]; rfl, hbw⟩
  · have hd : decide (l = m) = false := decide_eq_false (fun h => hlm (by rw [h]))
    have HD := Lib.hid hd
    clear hd
    go_enter Tryd.func88, Tryd.ntmps88
    have f1 : ¬ ((l.length : Int) = (m.length : Int)) := by omega
    go_wp2_with fail
    go_ret
    exact ⟨by rw [HD.out]; rfl, Below.refl _ _⟩
end Go.Proofs.YtjfeehoflahblaaDoor
