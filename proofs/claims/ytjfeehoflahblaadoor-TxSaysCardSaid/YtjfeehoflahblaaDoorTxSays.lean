/- TxSays: for every two transactions the statement's function returns true, and nothing that was there is written. Conditions: none beside the card's own (the arguments can be read as data; api's errors lie as the program's text lays them). -/
import Derived.Test.YtjfeehoflahblaaDoorRows
import Derived.Test.YtjfeehoflahblaaDoorTie
import Derived.Test.YtjfeehoflahblaaDoorCards
import Derived.Test.YtjfeehoflahblaaDoorSays4
import Derived.Test.YtjfeehoflahblaaDoorOpen
import Derived.Test.YtjfeehoflahblaaDoorLaid
import Derived.SevenTiedAt
namespace Go.Proofs.YtjfeehoflahblaaDoor.txSays
open Go.ChangeShapes Go.WideShapes Go.ChangeAt Go.RowKit Go.Deep Go.Joins

def txt : DataW Unit → List UInt8
  | .iface _ (.ptr (.agg [.lit (.string s)])) => s
  | _ => []
def L : List (String × List UInt8 × Nat) := [("sargasso/api.ErrEnd", txt Rows.laid_sargasso_api_ErrEnd, 12), ("sargasso/api.ErrShape", txt Rows.laid_sargasso_api_ErrShape, 7), ("sargasso/api.ErrLong", txt Rows.laid_sargasso_api_ErrLong, 1), ("sargasso/api.ErrMany", txt Rows.laid_sargasso_api_ErrMany, 0), ("sargasso/api.ErrValue", txt Rows.laid_sargasso_api_ErrValue, 3), ("sargasso/api.ErrTwice", txt Rows.laid_sargasso_api_ErrTwice, 4), ("sargasso/api.ErrBase", txt Rows.laid_sargasso_api_ErrBase, 11), ("sargasso/api.ErrRoot", txt Rows.laid_sargasso_api_ErrRoot, 6), ("sargasso/api.ErrKnown", txt Rows.laid_sargasso_api_ErrKnown, 8), ("sargasso/api.ErrParent", txt Rows.laid_sargasso_api_ErrParent, 9), ("sargasso/api.ErrInvalid", txt Rows.laid_sargasso_api_ErrInvalid, 13), ("sargasso/api.ErrTime", txt Rows.laid_sargasso_api_ErrTime, 14), ("sargasso/api.ErrMissing", txt Rows.laid_sargasso_api_ErrMissing, 15), ("sargasso/api.ErrKey", txt Rows.laid_sargasso_api_ErrKey, 2), ("sargasso/api.ErrYoung", txt Rows.laid_sargasso_api_ErrYoung, 16), ("sargasso/api.ErrEarly", txt Rows.laid_sargasso_api_ErrEarly, 17), ("sargasso/api.ErrLess", txt Rows.laid_sargasso_api_ErrLess, 18), ("sargasso/api.ErrReward", txt Rows.laid_sargasso_api_ErrReward, 19), ("sargasso/api.ErrClash", txt Rows.laid_sargasso_api_ErrClash, 20), ("sargasso/api.ErrLimit", txt Rows.laid_sargasso_api_ErrLimit, 21), ("sargasso/api.ErrFull", txt Rows.laid_sargasso_api_ErrFull, 10), ("sargasso/api.ErrRange", txt Rows.laid_sargasso_api_ErrRange, 5), ("sargasso/api.ErrNone", txt Rows.laid_sargasso_api_ErrNone, 22), ("sargasso/api.ErrWord", txt Rows.laid_sargasso_api_ErrWord, 23), ("sargasso/api.ErrNumber", txt Rows.laid_sargasso_api_ErrNumber, 24)]
theorem laid_eq : Rows.txSaysRow.laid = L.map fun x => (x.1, errD x.2.1) := by kernel_rfl
theorem laid_all : (L.all fun x => decide (Tryd.prog.globalNamed x.1 = some x.2.2) && decide ((Tryd.prog.globals[x.2.2]?).map (·.type) = some 40)) = true := by kernel_rfl
theorem of_laid {W : World} (h : laidMetH Tryd.prog Rows.txSaysRow.laid W) : ∃ E, Errs W E := by
  rw [MakeChecks.laidMetH_plain _ _ _ (by kernel_rfl), laid_eq] at h
  refine errs_all L (by kernel_rfl) (fun x hx => ?_) h
  have := List.all_eq_true.1 laid_all x hx
  simpa using this
theorem door_met (os : Os) (args : Array Value) : laidMetH Tryd.prog Rows.txSaysRow.laid ((World.doorLaid Tryd.prog 484 os).forCall (fun _ _ => 0) ⟨#[], args, []⟩).memory :=
  laidMetH_of_parts3 (fuel := 8) (laidMet_of_run' 8 (by kernel_rfl) (by kernel_rfl)) (by kernel_rfl) (by kernel_rfl)

set_option maxRecDepth 100000 in
theorem lifted (os : Os) (started : os.Started) (H : Type) (enc : TypeId × Value → H) :
    ReturnsInHanded {} Tryd.checked os 3 .any (fun w args => (Rows.txSaysSpec.pre enc Tryd.prog Tryd.f3 [] false w args ∧ laidMetH Tryd.prog Rows.txSaysRow.laid w) ∧ sizedMet enc Tryd.prog Tryd.f3 (OpenSpec.ofChange Rows.txSaysSpec) false w args)
      (Rows.txSaysSpec.post enc Tryd.prog Tryd.f3 false true false false) := by
  refine returnsInHanded_of_change_and (C := Tryd.checked) (X := fun w _ => laidMetH Tryd.prog Rows.txSaysRow.laid w) (fun _ _ _ hh h => h.of_heap hh) own started (by kernel_rfl) Tryd.func3
    (ChangeSpec.witness_shaped (enc := enc) (C := Tryd.checked) (os := os) (X := fun w _ => laidMetH Tryd.prog Rows.txSaysRow.laid w) false (World.doorLaid Tryd.prog 484 os) #[.agg #[.int .u32 0, .slice none 0 0, .slice none 0 0, .int .u32 0], .agg #[.int .u32 0, .slice none 0 0, .slice none 0 0, .int .u32 0]] 8 rfl (World.shaped_of_RefB (by kernel_rfl) (by kernel_rfl)) (by kernel_rfl) (by kernel_rfl) (by kernel_rfl) (door_met os _)) ?_
  intro W base args ds gs before hval0 hW _ _ hL _
  have hval : ∀ (j : Nat) t v, Tryd.f3.params[j]? = some t → args[j]? = some v → Value.okWide Tryd.prog W .any base t v := hval0
  have hW' := hW
  obtain ⟨p, q, hA0, hV, rfl, hfz, hnd⟩ := hW
  have hA : DataW.TrodAll enc Tryd.prog W 0 (fun _ => true) true Tryd.f3.params.toList args.toList ds p := hA0
  rw [Tryd.params3] at hA hval
  obtain ⟨v0, vs0, d0, ds0, p0, q0, hargs, rfl, rfl, h0, r0⟩ := trodAll_cons hA
  obtain ⟨v1, vs1, d1, ds1, p1, q1, rfl, rfl, rfl, h1, r1⟩ := trodAll_cons r0
  obtain ⟨rfl, rfl, rfl⟩ := trodAll_nil r1
  obtain rfl : args = #[v0, v1] := by cases args; simp_all
  obtain ⟨rfl, rfl⟩ := trodVars_none hV
  obtain ⟨E, hE⟩ := of_laid hL
  obtain ⟨⟨l0⟩, rfl, _⟩ := okWide_struct Tryd.underlying26 (hval 0 26 v0 rfl rfl)
  obtain ⟨⟨l1⟩, rfl, _⟩ := okWide_struct Tryd.underlying26 (hval 1 26 v1 rfl rfl)
  have k0 := h0
  have k1 := h1
  have lt0 : ∀ x ∈ p0, x.block < W.heap.size := by obtain ⟨m, hm⟩ := k0; exact DataW.trod_lt m _ _ _ hm
  have lt1 : ∀ x ∈ p1, x.block < W.heap.size := by obtain ⟨m, hm⟩ := k1; exact DataW.trod_lt m _ _ _ hm
  obtain ⟨f0, e0⟩ := h0
  obtain ⟨f1, e1⟩ := h1
  obtain ⟨t, A, c, A', c', g0, ri0, ro0, ok0, _⟩ := open_tx e0
  obtain ⟨u, B, d, B', d', g1, ri1, ro1, ok1, _⟩ := open_tx e1
  have g0' : l0 = txC t A c A' c' := by simpa [Value.cells] using g0
  have g1' : l1 = txC u B d B' d' := by simpa [Value.cells] using g1
  subst g0' g1'
  clear hA0 hval0
  refine (says4_calls t u A A' B B' c c' d d' W hE ri0 ro0 ri1 ro1 ok0 ok1).mono fun e W' ⟨he, bel⟩ => ?_
  subst he
  exact ⟨_, rfl, _, _, _, [], _, [], hW', trodAll_mk1 (shut_bool Tryd.underlying4 _), (trodAll_cons_mk (Below.trod laidOut (by kernel_rfl) (of_decide_eq_true (by kernel_rfl)) k0 bel lt0) (trodAll_cons_mk (Below.trod laidOut (by kernel_rfl) (of_decide_eq_true (by kernel_rfl)) k1 bel lt1) trodAll_mk0)), rfl, bel.frame _, fun h => by cases h⟩

theorem over : Rows.TxSaysSaid :=
  OpenClaim.holds_of_wide 3 Tryd.f3 rfl rfl rfl rfl rfl rfl rfl ⟨rfl, rfl, rfl, rfl, rfl⟩ rfl rfl rfl rfl rfl (by kernel_rfl) Tryd.func3 (by kernel_rfl)
    (of_decide_eq_true (by kernel_rfl)) (by unfold Func.isWrapper; first | (rw [if_pos (by decide +kernel)]; kernel_rfl) | (rw [if_neg (by decide +kernel)]; exact ⟨rfl, rfl⟩))
    (fun os started H enc _ => lifted os started H enc)
/-- THE STATEMENT: the tied card. -/
theorem proved : Rows.TxSaysCardSaid :=
  Claim7.holds_tied_plain_at .later [] Rows.txSaysCard.laidKinds true Rows.txSaysCard.stood.harness true
    over (fun _ h => by cases h) (by kernel_rfl) (fun _ h => by cases h) txSays_row_tie rfl ⟨rfl, rfl⟩ (by kernel_rfl) rfl
    (fun f fn hf hfn => by
      obtain rfl : f = 3 := Option.some.inj ((show Tryd.prog.funcNamed "sargasso/sargassolaw4.TxSays" = some 3 by kernel_rfl).symm.trans hf) |>.symm
      obtain rfl : fn = Tryd.f3 := (Option.some.inj (Tryd.func3.symm.trans hfn)).symm
      exact ⟨by kernel_rfl, fun j t ht => by
        rw [Tryd.params3] at ht
        have hm : t ∈ [26, 26] := by simpa using Array.mem_of_getElem? ht
        have hall : ([26, 26].all fun u => !Tryd.prog.wantsStandIn u) = true := by kernel_rfl
        exact (show Tryd.prog.wantsStandIn t = false by simpa using List.all_eq_true.1 hall t hm)⟩)
    (by kernel_rfl)
#print axioms proved
end Go.Proofs.YtjfeehoflahblaaDoor.txSays
