/- Whether two inputs are the same: the program's question. Conditions: rows of at most 2^39 things. -/
import Derived.Test.YtjfeehoflahblaaDoorBytesEq
namespace Go.Proofs.YtjfeehoflahblaaDoor
open Go.RowKit

theorem in_eq (x y : TIn) : decide (x = y) = (decide (x.tx = y.tx ∧ x.n = y.n) && (decide (x.seq = y.seq) && decide (x.key = y.key))) := by
  rw [Bool.eq_iff_iff]
  cases x; cases y
  simp
  constructor
  · rintro ⟨rfl, rfl, rfl, rfl⟩; simp
  · rintro ⟨⟨rfl, rfl⟩, rfl, rfl⟩; simp
set_option maxRecDepth 100000 in
set_option maxHeartbeats 1000000 in
theorem same1_calls (x y : TIn) (K K' : Option Addr) (c c' b1 b2 : Nat) (w : World) (hx : x.Ok) (hy : y.Ok) (h1 : Rd w b1 1 K x.key.length (ub x.key)) (h2 : Rd w b2 1 K' y.key.length (ub y.key)) (hb1 : b1 ≤ w.heap.size) (hb2 : b2 ≤ w.heap.size) :
    Calls Tryd.prog 89 #[.agg (inC x K c).toArray, .agg (inC y K' c').toArray] w fun e w' => e = .returned (.bool (decide (x = y))) ∧ Below w.heap.size w w' := by
  have HX := Lib.hid hx
  have HY := Lib.hid hy
  have X33 := Lib.hid (inC_33 hx.txl K c)
  have Y33 := Lib.hid (inC_33 hy.txl K' c')
  have X34 := Lib.hid (inC_34 hx.txl K c)
  have Y34 := Lib.hid (inC_34 hy.txl K' c')
  have tok2 : True := trivial
  have tok3 : True := trivial
  have tok6 : True := trivial
  have tok8 : True := trivial
  have tok9 : True := trivial
  by_cases hp : x.tx = y.tx ∧ x.n = y.n
  all_goals
    have HP := Lib.hid hp
    first | have hd : decide (x.tx = y.tx ∧ x.n = y.n) = true := by simp [hp] | have hd : decide (x.tx = y.tx ∧ x.n = y.n) = false := decide_eq_false hp
    have HD := Lib.hid hd
    clear hp hd
    go_enter Tryd.func89, Tryd.ntmps89
    go_wp2_with (first
      | (have _t := tok2; refine wp_box (o := ⟨some 2, _, _, _, _, _⟩) rfl _ _ rfl rfl ?_; intro g1 wa h1a ba ga; clear _t tok2
         have h1q : Bk wa g1 57 (inC x K c).toArray := h1a)
      | (have _t := tok3; refine wp_box (o := ⟨some 3, _, _, _, _, _⟩) rfl _ _ rfl rfl ?_; intro g2 wb h2a bb gb; clear _t tok3
         have h2q : Bk wb g2 57 (inC y K' c').toArray := h2a
         have h1r : Bk wb g1 57 (inC x K c).toArray := h1q.same bb
         have bwb := ba.trans (bb.mono ba.size)
         have cx33 : wb.cell? ⟨g1, 33, none⟩ = some (.slice K x.key.length c) := (h1r.cell 33).trans (by simpa using X33.out)
         have cy33 : wb.cell? ⟨g2, 33, none⟩ = some (.slice K' y.key.length c') := (h2q.cell 33).trans (by simpa using Y33.out)
         have cx34 := (h1r.cell 34).trans (by simpa using X34.out)
         have cy34 := (h2q.cell 34).trans (by simpa using Y34.out)
         clear h1a h2a)
      | (have _t := tok6; refine wp_load (o := ⟨some 6, _, _, _, _, _⟩) (cs := pC x.tx x.n) rfl _ _ rfl agPoint rfl (pC_length HX.out.txl _) (h1r.sub (o := 0) (fun j u hu => by rw [Nat.zero_add]; exact inC_pt HX.out.txl _ _ hu)) ?_; clear _t tok6)
      | (have _t := tok8; refine wp_load (o := ⟨some 8, _, _, _, _, _⟩) (cs := pC y.tx y.n) rfl _ _ rfl agPoint rfl (pC_length HY.out.txl _) (h2q.sub (o := 0) (fun j u hu => by rw [Nat.zero_add]; exact inC_pt HY.out.txl _ _ hu)) ?_; clear _t tok8)
      | (have _t := tok9; have hq := run_eq_point x.tx y.tx x.n y.n wb HX.out.txl HY.out.txl HX.out.tx HY.out.tx HX.out.n HY.out.n; rw [HD.out] at hq
         refine wp_val (o := ⟨some 9, _, _, _, _, _⟩) (by kernel_rfl) _ (exec_bin _ _ _ _ _ rfl rfl rfl gdPoint hq) ?_; clear _t tok9 hq))
    all_goals (first
      | (refine (bytesEq_calls _ _ _ _ _ _ b1 b2 x.key y.key _ (h1.below (bwb.mono hb1)) (h2.below (bwb.mono hb2)) HX.out.key HY.out.key).mono ?_
         rintro e wc ⟨rfl, rfl⟩
         go_wp2_with fail
         go_ret
         refine ⟨?_, bwb⟩
         rw [in_eq, HD.out]
         simp [*, results])
      | (go_ret
         refine ⟨?_, bwb⟩
         rw [in_eq, HD.out]
         simp [*, results]))
end Go.Proofs.YtjfeehoflahblaaDoor
