/- What a row's list of variables gives: the sentinels lie apart, each behind its variable. Plain lemmas, no conditions. -/
import Derived.Test.YtjfeehoflahblaaDoorErr
import Derived.ProofKit
import Derived.LaidMore
import Derived.LaidLaws
import Derived.LaidHandle
import Derived.MakeChecks
import Derived.Stop.Joined
import Derived.OpenShut
namespace Go.Proofs.YtjfeehoflahblaaDoor
open Go.RowKit Go.ChangeShapes Go.WideShapes Go.ChangeAt

theorem own : ownKnob Tryd.prog.godebug = none := by kernel_rfl
theorem laidOut : laidOutB Tryd.prog = true := by kernel_rfl
theorem errRow (u : TypeId) (h : Tryd.prog.typeName? 3 u = some "*errors.errorString") : u = 250 := by
  have hs : "*" ++ "errors.errorString" = "*errors.errorString" := by decide
  exact typeName_ptr_named (nm := "errors.errorString") (by rw [hs]; kernel_rfl) (by kernel_rfl) (by decide) u (by rw [hs]; exact h)
theorem errCells : Tryd.prog.cellsOf 269 = 1 := by kernel_rfl
theorem strCells : Tryd.prog.cellsOf 9 = 1 := by kernel_rfl
abbrev errD (text : List UInt8) : DataW Unit := .iface "*errors.errorString" (.ptr (.agg [.lit (.string text)]))
set_option maxRecDepth 100000 in
theorem errs_of_vars {W : World} : ∀ (L : List (String × List UInt8 × Nat)) (ps : List MemPlace), (∀ x ∈ L, Tryd.prog.globalNamed x.1 = some x.2.2 ∧ (Tryd.prog.globals[x.2.2]?).map (·.type) = some 40) →
    DataW.LaidVars Tryd.prog W (L.map fun x => (x.1, errD x.2.1)) ps →
    (∀ b off, MemPlace.cell b off ∈ ps → (∃ c t, W.heap[b]? = some (.cells c t (0, 0))) ∧ ∀ u v, W.cell? ⟨b, off, none⟩ = some (.iface u v) → Value.okWide Tryd.prog W .any 0 u v) →
    ∃ ads : List Addr, ads.length = L.length ∧ (∀ (i : Nat) (x : String × List UInt8 × Nat) (a : Addr), L[i]? = some x → ads[i]? = some a → W.cell? ⟨x.2.2, 0, none⟩ = some (.iface 250 (.pointer (some a))) ∧ ∃ t cs, Bk W a.block t cs) ∧
      (ads.map fun a => MemPlace.cell a.block a.off).Sublist ps
  | [], ps, _, _, _ => ⟨[], rfl, fun i x a h => by simp at h, List.nil_sublist _⟩
  | (n, text, g) :: L, ps, hL, h, hrows => by
    obtain ⟨hg, ht⟩ := hL _ (List.mem_cons_self ..)
    obtain ⟨g0, t0, cs0, f0, p0, q0, hg0, ht0, hv0, hd0, hq0, e0⟩ := h
    obtain rfl := Option.some.inj (hg.symm.trans hg0)
    obtain rfl := Option.some.inj (ht.symm.trans ht0)
    subst e0
    obtain ⟨l0⟩ := cs0
    have ok0 : ∀ u v, l0 = [.iface u v] → Value.okWide Tryd.prog W .any 0 u v := fun u v e => by
      subst e
      exact (hrows g 0 (by simp [MemPlace.row])).2 u v (by simpa using World.var?_cell hg0 hv0 0)
    obtain ⟨a0, s0, rfl, hc0, hs0, hz0, rfl⟩ := errorString_of_trod Tryd.underlying40 errRow Tryd.underlying250 Tryd.underlying269 rfl rfl Tryd.underlying9 errCells strCells hd0 ok0
    obtain ⟨ads, hl, hc, hs⟩ := errs_of_vars L q0 (fun x hx => hL x (List.mem_cons_of_mem _ hx)) hq0 (fun b off hm => hrows b off (List.mem_append_right _ hm))
    refine ⟨a0 :: ads, by simp [hl], ?_, ?_⟩
    · intro i x a hi ha
      cases i with
      | zero =>
        simp at hi ha
        subst hi ha
        obtain ⟨c, t, hb⟩ := (hrows a0.block a0.off (by simp [MemPlace.row])).1
        exact ⟨by simpa using World.var?_cell hg0 hv0 0, t, c, hb⟩
      | succ i => exact hc i x a (by simpa using hi) (by simpa using ha)
    · rw [List.map_cons]
      have h1 : MemPlace.row a0 1 = [MemPlace.cell a0.block a0.off] := by simp [MemPlace.row]
      rw [h1, List.append_assoc]
      refine List.Sublist.trans ?_ (List.sublist_append_right _ _)
      simpa using hs
/-- The addresses behind a list of variables: each its own. -/
theorem errs_of_laid {W : World} (L : List (String × List UInt8 × Nat)) (hL : ∀ x ∈ L, Tryd.prog.globalNamed x.1 = some x.2.2 ∧ (Tryd.prog.globals[x.2.2]?).map (·.type) = some 40)
    (h : laidMet Tryd.prog (L.map fun x => (x.1, errD x.2.1)) W) : ∃ E : Nat → Addr, (∀ i x, L[i]? = some x → W.cell? ⟨x.2.2, 0, none⟩ = some (errV E i)) ∧ (∀ i j, i < L.length → j < L.length → E i = E j → i = j) ∧ ∀ i, i < L.length → ∃ t cs, Bk W (E i).block t cs := by
  obtain ⟨ps, hv, hnd, hrows⟩ := h
  obtain ⟨ads, hl, hc, hs⟩ := errs_of_vars L ps hL hv hrows
  have hE : ∀ i, i < L.length → ads[i]? = some (ads.getD i ⟨0, 0, none⟩) := fun i hi => by
    rw [List.getElem?_eq_getElem (by omega)]; simp [List.getD, List.getElem?_eq_getElem (show i < ads.length by omega)]
  refine ⟨fun i => ads.getD i ⟨0, 0, none⟩, fun i x hx => ?_, fun i j hi hj e => ?_, fun i hi => ?_⟩
  · have hi : i < L.length := by
      rcases Nat.lt_or_ge i L.length with h1 | h1
      · exact h1
      · rw [List.getElem?_eq_none h1] at hx; cases hx
    exact (hc i x _ hx (hE i hi)).1
  · have hn := hnd.sublist hs
    have h1 : (ads.map fun a => MemPlace.cell a.block a.off)[i]? = (ads.map fun a => MemPlace.cell a.block a.off)[j]? := by
      rw [List.getElem?_map, List.getElem?_map, hE i hi, hE j hj]
      simp only [Option.map_some]
      have e' : ads.getD i ⟨0, 0, none⟩ = ads.getD j ⟨0, 0, none⟩ := e
      rw [e']
    exact (List.getElem?_inj (by simp; omega) hn).1 h1
  · exact (hc i _ _ (List.getElem?_eq_getElem hi) (hE i hi)).2

/-- The names of api's errors, their texts, their variables. -/
theorem errs_all {W : World} (L : List (String × List UInt8 × Nat)) (hg : L.map (fun x => x.2.2) = errG) (hL : ∀ x ∈ L, Tryd.prog.globalNamed x.1 = some x.2.2 ∧ (Tryd.prog.globals[x.2.2]?).map (·.type) = some 40)
    (h : laidMet Tryd.prog (L.map fun x => (x.1, errD x.2.1)) W) : ∃ E, Errs W E := by
  have hl : L.length = 25 := by have := congrArg List.length hg; simpa [errG] using this
  obtain ⟨E, h1, h2, h3⟩ := errs_of_laid L hL h
  refine ⟨E, fun i g hi => ?_, fun i j hi hj => h2 i j (by omega) (by omega), fun i hi => h3 i (by omega)⟩
  rw [← hg, List.getElem?_map] at hi
  cases hx : L[i]? with
  | none => rw [hx] at hi; cases hi
  | some x =>
    rw [hx] at hi
    simp at hi
    subst hi
    exact h1 i x hx
end Go.Proofs.YtjfeehoflahblaaDoor
