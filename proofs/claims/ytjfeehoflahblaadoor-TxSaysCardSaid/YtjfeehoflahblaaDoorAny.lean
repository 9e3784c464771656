/- Whether one of a transaction's inputs has too long a key, or spends what is of no transaction: the program's questions. Conditions: rows of at most 2^39 things. -/
import Derived.Test.YtjfeehoflahblaaDoorSums
namespace Go.Proofs.YtjfeehoflahblaaDoor
open Go.RowKit

def longKey (x : TIn) : Bool := decide (80 < x.key.length)
def nullIn (x : TIn) : Bool := isNullP x.tx x.n
set_option maxRecDepth 100000 in
theorem check1_calls (x : TIn) (K : Option Addr) (c : Nat) (w : World) (hx : x.Ok) (hk : x.key.length ≤ 549755813888) :
    Calls Tryd.prog 81 #[.agg (inC x K c).toArray] w fun e w' => e = .returned (.bool (longKey x)) ∧ Below w.heap.size w w' := by
  have H33 := Lib.hid (inC_33 hx.txl K c)
  have tok1 : True := trivial
  by_cases h : 80 < x.key.length
  all_goals
    first | have hd : longKey x = true := by simp [longKey, h] | have hd : longKey x = false := by simp [longKey]; omega
    have HD := Lib.hid hd
    clear hd
    go_enter Tryd.func81, Tryd.ntmps81
    go_wp2_with (have _t := tok1; refine wp_box (o := ⟨some 1, _, _, _, _, _⟩) rfl _ _ rfl rfl ?_; intro g1 wa h1 ba ga; clear _t tok1
                 have h1q : Bk wa g1 57 (inC x K c).toArray := h1
                 have c1 : wa.cell? ⟨g1, 33, none⟩ = some (.slice K x.key.length c) := (h1q.cell 33).trans (by simpa using H33.out))
    go_ret
    exact ⟨by rw [HD.out]; simp; omega, ba⟩
set_option maxRecDepth 100000 in
theorem base1_calls (x : TIn) (K : Option Addr) (c : Nat) (w : World) (hx : x.Ok) :
    Calls Tryd.prog 139 #[.agg (inC x K c).toArray] w fun e w' => e = .returned (.bool (nullIn x)) ∧ Below w.heap.size w w' := by
  have HX := Lib.hid hx
  have tok1 : True := trivial
  have tok4 : True := trivial
  go_enter Tryd.func139, Tryd.ntmps139
  go_wp2_with (first
    | (have _t := tok1; refine wp_box (o := ⟨some 1, _, _, _, _, _⟩) rfl _ _ rfl rfl ?_; intro g1 wa h1 ba ga; clear _t tok1
       have h1q : Bk wa g1 57 (inC x K c).toArray := h1)
    | (have _t := tok4; refine wp_load (o := ⟨some 4, _, _, _, _, _⟩) (cs := pC x.tx x.n) rfl _ _ rfl agPoint rfl (pC_length HX.out.txl _) (h1q.sub (o := 0) (fun j u hu => by rw [Nat.zero_add]; exact inC_pt HX.out.txl _ _ hu)) ?_; clear _t tok4))
  refine (isNull_calls x.tx x.n _ HX.out.txl HX.out.tx HX.out.n).mono ?_
  rintro e wb ⟨rfl, bb⟩
  go_wp2_with fail
  go_ret
  exact ⟨rfl, ba.trans (bb.mono ba.size)⟩

def IdxRL (l : List TIn) (w : World) (i : Value) (wr : World) : Prop := ∃ k : Nat, k ≤ l.length ∧ i = .int .i64 k ∧ (∀ j x, j < k → l[j]? = some x → longKey x = false) ∧ Below w.heap.size w wr
/-- What IndexFunc answers. -/
def IdxL (l : List TIn) (v : Int) : Prop := (0 ≤ v ∧ l.any longKey = true) ∨ (v = -1 ∧ l.any longKey = false)
theorem any_noneL {l : List TIn} (h : ∀ j x, j < l.length → l[j]? = some x → longKey x = false) : l.any longKey = false := by
  rw [List.any_eq_false]
  intro x hx
  obtain ⟨j, hj⟩ := List.getElem?_of_mem hx
  simp [h j x (lt_of_get hj) hj]
set_option maxRecDepth 100000 in
set_option maxHeartbeats 1000000 in
theorem idxL_calls (l : List TIn) (A : Option Addr) (c : Nat) (w : World) (hi : RdIns w w.heap.size A l) (hk : ∀ x ∈ l, x.Ok) (hl : l.length ≤ 549755813888) (hkl : ∀ x ∈ l, x.key.length ≤ 549755813888) :
    Calls Tryd.prog 136 #[.slice A l.length c, .func (.func 81) #[] #[]] w fun e w' => ∃ v, e = .returned (.int .i64 v) ∧ IdxL l v ∧ Below w.heap.size w w' := by
  go_enter Tryd.func136, Tryd.ntmps136
  go_wp2
  go_loopw [8] (IdxRL l w) (fun i _ => l.length - (intOf i).toNat)
  case atStart => exact ⟨0, by omega, rfl, fun j x hj _ => by omega, Below.refl _ _⟩
  case round =>
    obtain ⟨k, hk1, rfl, hn, hbw⟩ := hrel
    have HN := Lib.hid hn
    clear hn
    by_cases hlt : k < l.length
    · obtain ⟨x, hx⟩ : ∃ x, l[k]? = some x := ⟨_, List.getElem?_eq_getElem hlt⟩
      obtain ⟨b, o, K, kc, rfl, hbl, hcell, hkey⟩ := hi k x hx
      have hxk := hk x (mem_of_get hx)
      have HX := Lib.hid (And.intro hx hxk)
      have hkx := hkl x (mem_of_get hx)
      have j0 : (0 : Int) ≤ (k : Int) := by omega
      have j1 : (k : Int) < (l.length : Int) := by omega
      have tok : True := trivial
      clear hx hxk
      have HC := check1_calls x K kc wr HX.out.2 hkx
      by_cases hp : longKey x = true
      all_goals
        first | rw [hp] at HC | rw [show longKey x = false by simpa using hp] at HC
        have HQ := Lib.hid HC
        have HP := Lib.hid hp
        clear hp HC
        go_wp2_with (have _t := tok; refine wp_load (o := ⟨some 15, _, _, _, _, _⟩) (cs := inC x K kc) rfl _ _ rfl agIn rfl (inC_length HX.out.2.txl _ _) (fun j u hu => (hbw.cell (p := ⟨b, _, none⟩) hbl).trans (hcell j u hu)) ?_; clear _t tok)
        refine HQ.out.mono ?_
        rintro e wb ⟨rfl, bb⟩
        have bwb := hbw.trans (bb.mono hbw.size)
        go_wp2_with fail
      · go_ret
        exact ⟨k, rfl, .inl ⟨by omega, List.any_eq_true.2 ⟨x, mem_of_get HX.out.1, HP.out⟩⟩, bwb⟩
      · go_roundw
        case rel =>
          refine ⟨k + 1, by omega, by go_num, fun j y hj hy => ?_, bwb⟩
          rcases Nat.lt_or_ge j k with h | h
          · exact HN.out j y h hy
          · obtain rfl : j = k := by omega
            have := HX.out.1
            rw [hy] at this; injection this with this; subst this
            exact Bool.eq_false_iff.2 HP.out
        case measure => simp [intOf]; omega
    · obtain rfl : k = l.length := by omega
      go_wp2_with fail
      go_ret
      exact ⟨-1, rfl, .inr ⟨rfl, any_noneL HN.out⟩, hbw⟩

def IdxRN (l : List TIn) (w : World) (i : Value) (wr : World) : Prop := ∃ k : Nat, k ≤ l.length ∧ i = .int .i64 k ∧ (∀ j x, j < k → l[j]? = some x → nullIn x = false) ∧ Below w.heap.size w wr
/-- What IndexFunc answers. -/
def IdxN (l : List TIn) (v : Int) : Prop := (0 ≤ v ∧ l.any nullIn = true) ∨ (v = -1 ∧ l.any nullIn = false)
theorem any_noneN {l : List TIn} (h : ∀ j x, j < l.length → l[j]? = some x → nullIn x = false) : l.any nullIn = false := by
  rw [List.any_eq_false]
  intro x hx
  obtain ⟨j, hj⟩ := List.getElem?_of_mem hx
  simp [h j x (lt_of_get hj) hj]
set_option maxRecDepth 100000 in
set_option maxHeartbeats 1000000 in
theorem idxN_calls (l : List TIn) (A : Option Addr) (c : Nat) (w : World) (hi : RdIns w w.heap.size A l) (hk : ∀ x ∈ l, x.Ok) (hl : l.length ≤ 549755813888) :
    Calls Tryd.prog 136 #[.slice A l.length c, .func (.func 139) #[] #[]] w fun e w' => ∃ v, e = .returned (.int .i64 v) ∧ IdxN l v ∧ Below w.heap.size w w' := by
  go_enter Tryd.func136, Tryd.ntmps136
  go_wp2
  go_loopw [8] (IdxRN l w) (fun i _ => l.length - (intOf i).toNat)
  case atStart => exact ⟨0, by omega, rfl, fun j x hj _ => by omega, Below.refl _ _⟩
  case round =>
    obtain ⟨k, hk1, rfl, hn, hbw⟩ := hrel
    have HN := Lib.hid hn
    clear hn
    by_cases hlt : k < l.length
    · obtain ⟨x, hx⟩ : ∃ x, l[k]? = some x := ⟨_, List.getElem?_eq_getElem hlt⟩
      obtain ⟨b, o, K, kc, rfl, hbl, hcell, hkey⟩ := hi k x hx
      have hxk := hk x (mem_of_get hx)
      have HX := Lib.hid (And.intro hx hxk)
      have j0 : (0 : Int) ≤ (k : Int) := by omega
      have j1 : (k : Int) < (l.length : Int) := by omega
      have tok : True := trivial
      clear hx hxk
      have HC := base1_calls x K kc wr HX.out.2
      by_cases hp : nullIn x = true
      all_goals
        first | rw [hp] at HC | rw [show nullIn x = false by simpa using hp] at HC
        have HQ := Lib.hid HC
        have HP := Lib.hid hp
        clear hp HC
        go_wp2_with (have _t := tok; refine wp_load (o := ⟨some 15, _, _, _, _, _⟩) (cs := inC x K kc) rfl _ _ rfl agIn rfl (inC_length HX.out.2.txl _ _) (fun j u hu => (hbw.cell (p := ⟨b, _, none⟩) hbl).trans (hcell j u hu)) ?_; clear _t tok)
        refine HQ.out.mono ?_
        rintro e wb ⟨rfl, bb⟩
        have bwb := hbw.trans (bb.mono hbw.size)
        go_wp2_with fail
      · go_ret
        exact ⟨k, rfl, .inl ⟨by omega, List.any_eq_true.2 ⟨x, mem_of_get HX.out.1, HP.out⟩⟩, bwb⟩
      · go_roundw
        case rel =>
          refine ⟨k + 1, by omega, by go_num, fun j y hj hy => ?_, bwb⟩
          rcases Nat.lt_or_ge j k with h | h
          · exact HN.out j y h hy
          · obtain rfl : j = k := by omega
            have := HX.out.1
            rw [hy] at this; injection this with this; subst this
            exact Bool.eq_false_iff.2 HP.out
        case measure => simp [intOf]; omega
    · obtain rfl : k = l.length := by omega
      go_wp2_with fail
      go_ret
      exact ⟨-1, rfl, .inr ⟨rfl, any_noneN HN.out⟩, hbw⟩

theorem anyL_calls (l : List TIn) (A : Option Addr) (c : Nat) (w : World) (hi : RdIns w w.heap.size A l) (hk : ∀ x ∈ l, x.Ok) (hl : l.length ≤ 549755813888) (hkl : ∀ x ∈ l, x.key.length ≤ 549755813888) :
    Calls Tryd.prog 80 #[.slice A l.length c, .func (.func 81) #[] #[]] w fun e w' => e = .returned (.bool (l.any longKey)) ∧ Below w.heap.size w w' := by
  go_enter Tryd.func80, Tryd.ntmps80
  go_wp2_with fail
  refine (idxL_calls l A c w hi hk hl hkl).mono ?_
  rintro e w' ⟨v, rfl, h, hb⟩
  rcases h with ⟨h0, h1⟩ | ⟨h0, h1⟩
  · have H1 := Lib.hid h1
    clear h1
    go_wp2_with fail
    go_ret
    exact ⟨by rw [H1.out]; simp <;> omega, hb⟩
  · have H1 := Lib.hid h1
    subst h0
    clear h1
    go_wp2_with fail
    go_ret
    exact ⟨by rw [H1.out]; rfl, hb⟩

theorem anyN_calls (l : List TIn) (A : Option Addr) (c : Nat) (w : World) (hi : RdIns w w.heap.size A l) (hk : ∀ x ∈ l, x.Ok) (hl : l.length ≤ 549755813888) :
    Calls Tryd.prog 80 #[.slice A l.length c, .func (.func 139) #[] #[]] w fun e w' => e = .returned (.bool (l.any nullIn)) ∧ Below w.heap.size w w' := by
  go_enter Tryd.func80, Tryd.ntmps80
  go_wp2_with fail
  refine (idxN_calls l A c w hi hk hl).mono ?_
  rintro e w' ⟨v, rfl, h, hb⟩
  rcases h with ⟨h0, h1⟩ | ⟨h0, h1⟩
  · have H1 := Lib.hid h1
    clear h1
    go_wp2_with fail
    go_ret
    exact ⟨by rw [H1.out]; simp <;> omega, hb⟩
  · have H1 := Lib.hid h1
    subst h0
    clear h1
    go_wp2_with fail
    go_ret
    exact ⟨by rw [H1.out]; rfl, hb⟩
end Go.Proofs.YtjfeehoflahblaaDoor
