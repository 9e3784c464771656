/- Whether a transaction spends one output twice: the program's answer, by a set of the outputs seen. Conditions: rows of at most 2^39 things. -/
import Derived.Test.YtjfeehoflahblaaDoorAny
import Derived.Maps.Own
import Derived.Maps.Views
namespace Go.Proofs.YtjfeehoflahblaaDoor
open Go.RowKit Go.Maps

/-- One input spends what another spends. -/
def samePt (x y : TIn) : Bool := decide (y.tx = x.tx ∧ y.n = x.n)
/-- The k-th input spends what an earlier one spends. -/
def seenAt (l : List TIn) (k : Nat) : Bool := match l[k]? with
  | some x => (l.take k).any (samePt x)
  | none => false
/-- Some input spends what an earlier one spends. -/
def twiceP (l : List TIn) : Bool := (List.range l.length).any (seenAt l)

theorem ub_inj : ∀ {a b : List Int}, ub a = ub b → a = b
  | [], [], _ => rfl
  | [], _ :: _, h => by simp [ub] at h
  | _ :: _, [], h => by simp [ub] at h
  | x :: a, y :: b, h => by
    simp [ub] at h
    rw [h.1, ub_inj (a := a) (b := b) (by simpa [ub] using h.2)]
def ptKey (a : List Int) (n : Int) : Lit := .string (keyBytes (a.map (Lit.int .u8) ++ [.int .u32 n]))
theorem wideP : (match Tryd.prog.underlying 55 with | some (.array _ _) | some (.struct _) => true | _ => false) = true := by kernel_rfl
theorem rowP : (55 : TypeId) < Tryd.prog.types.size := of_decide_eq_true (by kernel_rfl)
theorem keyTyP : Tryd.prog.keyType 55 = true := by kernel_rfl
theorem laidS : laidOutB Tryd.prog = true := by kernel_rfl
set_option maxRecDepth 100000 in
theorem lawP : Keyed Tryd.prog 55 := Keyed.of_law (deep_law_laid laidS (m := 4) (by omega) rowP (by kernel_rfl) wideP)
theorem sizeP : Tryd.prog.types.size + 1 = (Tryd.prog.types.size - 2) + 3 := by
  have h : 2 ≤ Tryd.prog.types.size := of_decide_eq_true (by kernel_rfl)
  omega
theorem keyOf_pt {a : List Int} {n : Int} (ha : a.length = 32) (hb : IsB a) (hn : Is32 n) : keyOf Tryd.prog 55 (.agg (pC a n).toArray) = some (ptKey a n) := by
  have h1 := point_formed (n := n) ha
  have h2 := lits_point (Tryd.prog.types.size - 2) ha hb hn
  unfold keyOf
  rw [Tryd.underlying55]
  simp only [keyTyP, h1, Bool.and_self, if_true]
  rw [sizeP, show (Value.agg (pC a n).toArray).cells.toList = pC a n by simp [Value.cells], h2]
  rfl
theorem ptKey_inj {a b : List Int} {n m : Int} (ha : a.length = 32) (hb : b.length = 32) (ka : IsB a) (kb : IsB b) (kn : Is32 n) (km : Is32 m) (h : ptKey a n = ptKey b m) : a = b ∧ n = m := by
  have h1 := keyOf_pt ha ka kn
  have h2 := keyOf_pt hb kb km
  rw [← h] at h2
  have h3 := lawP.inj h1 h2
  have h4 : pC a n = pC b m := by
    have h5 := congrArg Array.toList (Value.agg.inj h3)
    exact h5
  unfold pC at h4
  have h5 := List.append_inj h4 (by rw [ub_length, ub_length, ha, hb])
  have h6 := ub_inj h5.1
  have h7 := h5.2
  simp at h7
  exact ⟨h6, h7⟩

/-- The set of the first k inputs' outputs. -/
def SeenD (l : List TIn) (k : Nat) (D : DataW Unit) : Prop := IsMap D ∧ ∀ a n, a.length = 32 → IsB a → Is32 n → D.atKey (ptKey a n) (.lit (.bool false)) = .lit (.bool ((l.take k).any fun y => decide (y.tx = a ∧ y.n = n)))
theorem SeenD_zero (l : List TIn) : SeenD l 0 (.map []) := ⟨isMap_empty, fun _ _ _ _ _ => rfl⟩
theorem SeenD_succ {l : List TIn} {k : Nat} {D : DataW Unit} {x : TIn} (h : SeenD l k D) (hx : l[k]? = some x) (ho : x.Ok) : SeenD l (k + 1) (D.put (ptKey x.tx x.n) (.lit (.bool true))) := by
  refine ⟨h.1.put _ _, fun a n ha hb hn => ?_⟩
  rw [List.take_add_one, hx, List.any_append]
  by_cases e : ptKey a n = ptKey x.tx x.n
  · obtain ⟨e1, e2⟩ := ptKey_inj ha ho.txl hb ho.tx hn ho.n e
    rw [e, atKey_put_same h.1 (lawP.key (keyOf_pt ho.txl ho.tx ho.n))]
    simp [e1, e2]
  · rw [atKey_put_other e, h.2 a n ha hb hn]
    have : ¬ (x.tx = a ∧ x.n = n) := fun hh => e (by rw [hh.1, hh.2])
    simp [this]
theorem plainElem_bool_inv {P : Program} {e : TypeId} (he : P.underlying e = some .bool) {v : Value} {z : DataW Unit × List MemPlace} (h : plainElem P e v = some z) : ∃ a, v = .bool a ∧ z = (.lit (.bool a), []) := by
  unfold plainElem at h
  rw [he] at h
  cases v <;> simp at h
  exact ⟨_, rfl, h.symm⟩
set_option maxRecDepth 100000 in
theorem seen_lookup {l : List TIn} {k b : Nat} {D : DataW Unit} {w : World} {x : TIn} (hD : SeenD l k D) (ho : x.Ok) (hown : w.ownsMap Tryd.prog 55 (plainElem Tryd.prog 4) b k D) :
    (Instr.lookup 180 (.map (some b)) (.agg (pC x.tx x.n).toArray) false).run Tryd.prog w = .ok (.bool ((l.take k).any (samePt x))) w := by
  obtain ⟨v, ps, hrun, hv⟩ := hown.lookup lawP Tryd.underlying180 (z := .bool false) (by rfl) (plainElem_bool Tryd.underlying4 false) (keyOf_pt ho.txl ho.tx ho.n)
  obtain ⟨c, rfl, hc⟩ := plainElem_bool_inv Tryd.underlying4 hv
  rw [hD.2 _ _ ho.txl ho.tx ho.n] at hc
  simp only [Prod.mk.injEq] at hc
  have : ((l.take k).any (samePt x)) = c := Lit.bool.inj (DataW.lit.inj hc.1)
  rw [this]; exact hrun
theorem seenAt_get {l : List TIn} {k : Nat} {x : TIn} (h : l[k]? = some x) : seenAt l k = (l.take k).any (samePt x) := by unfold seenAt; rw [h]
theorem twiceP_yes {l : List TIn} {k : Nat} (hk : k < l.length) (h : seenAt l k = true) : twiceP l = true := List.any_eq_true.2 ⟨k, List.mem_range.2 hk, h⟩
theorem twiceP_no {l : List TIn} (h : ∀ j, j < l.length → seenAt l j = false) : twiceP l = false := by
  unfold twiceP
  rw [List.any_eq_false]
  intro j hj
  simp [h j (List.mem_range.1 hj)]

theorem bel_grown {w w' : World} (h : Below w.heap.size w w') : w.grownBy w' none := ⟨h.os, h.tape, h.output, h.size, fun k hk _ => h.block k hk⟩
def SeenR (l : List TIn) (w : World) (m : Nat) (i : Value) (wr : World) : Prop := ∃ (k : Nat) (D : DataW Unit), k ≤ l.length ∧ i = .int .i64 k ∧ SeenD l k D ∧ (∀ j, j < k → seenAt l j = false) ∧ wr.ownsMap Tryd.prog 55 (plainElem Tryd.prog 4) m k D ∧ Below w.heap.size w wr
set_option maxRecDepth 100000 in
set_option maxHeartbeats 1000000 in
theorem seen_calls (t : TTx) (A A' : Option Addr) (c c' : Nat) (w : World) (hi : RdIns w w.heap.size A t.ins) (hk : t.Ok) (hf : t.Fit) :
    Calls Tryd.prog 83 #[.agg (txC t A c A' c').toArray] w fun e w' => e = .returned (.bool (twiceP t.ins)) ∧ Below w.heap.size w w' := by
  have hil := hf.i
  have hmm := @run_makeMap Tryd.prog
  have tok1 : True := trivial
  go_enter Tryd.func83, Tryd.ntmps83
  go_wp2_with (have _t := tok1; refine wp_box (o := ⟨some 1, _, _, _, _, _⟩) rfl _ _ rfl rfl ?_; intro g1 wa h1 ba ga; clear _t tok1
               have hown0 := World.ownsMap_made wa Tryd.prog 55 (plainElem (H := Unit) Tryd.prog 4)
               have ba0 : Below w.heap.size w (wa.alloc (.map #[] 0)) := ba.alloc ba.size _
               have hma := ba.size
               have c1 : (wa.alloc (.map #[] 0)).cell? ⟨g1, 1, none⟩ = some (.slice A t.ins.length c) := ((h1.alloc _).cell 1).trans rfl)
  clear c1 hmm h1
  generalize hm : wa.heap.size = m at *
  go_loopw [10] (SeenR t.ins w m) (fun i _ => t.ins.length - (intOf i).toNat)
  case atStart => exact ⟨0, _, by omega, rfl, SeenD_zero _, fun j hj => by omega, hown0, ba0⟩
  case round =>
    clear hown0 ba0
    obtain ⟨k, D, hk1, rfl, hD, hn, hown, hbw⟩ := hrel
    have HN := Lib.hid hn
    clear hn
    by_cases hlt : k < t.ins.length
    · obtain ⟨x, hx⟩ : ∃ x, t.ins[k]? = some x := ⟨_, List.getElem?_eq_getElem hlt⟩
      obtain ⟨b, o, K, kc, rfl, hbl, hcell, hkey⟩ := hi k x hx
      have hxk := hk.ins x (mem_of_get hx)
      have HX := Lib.hid (And.intro hx hxk)
      have j0 : (0 : Int) ≤ (k : Int) := by omega
      have j1 : (k : Int) < (t.ins.length : Int) := by omega
      have tok13 : True := trivial
      have tok5 : True := trivial
      have tok16 : True := trivial
      have tok20 : True := trivial
      have hroom : k < maxLen := by unfold maxLen; omega
      have hkey' := keyOf_pt hxk.txl hxk.tx hxk.n
      have HL := Lib.hid (fun (wx : World) (ho : wx.ownsMap Tryd.prog 55 (plainElem Tryd.prog 4) m k D) => seen_lookup hD hxk ho)
      clear hx hxk
      by_cases hp : (t.ins.take k).any (samePt x) = true
      all_goals
        first | rw [hp] at HL | rw [show (t.ins.take k).any (samePt x) = false by simpa using hp] at HL
        have HP := Lib.hid hp
        clear hp
        go_wp2_with (first
          | (have _t := tok13; refine wp_load (o := ⟨some 13, _, _, _, _, _⟩) (cs := inC x K kc) rfl _ _ rfl agIn rfl (inC_length HX.out.2.txl _ _) (fun j u hu => (hbw.cell (p := ⟨b, _, none⟩) hbl).trans (hcell j u hu)) ?_; clear _t tok13)
          | (have _t := tok5; refine wp_alloc (o := ⟨some 5, _, _, _, _, _⟩) rfl _ rfl (z := zIn) (by kernel_rfl) ?_; intro g5 wd h5 bd gd; clear _t tok5
             refine wp_store_all (cs := inC x K kc) rfl _ (.tmp 5) _ rfl agIn rfl rfl h5 (inC_length HX.out.2.txl _ _) rfl (inC_one _ _ _) ?_; intro we h5e ge
             have sw := hbw.size
             have sd := bd.size
             have lm := hown.lt
             have hownd := hown.kept (row := none) (bel_grown bd) (by simp)
             have howne := hownd.kept ge (by intro h; injection h with h; omega)
             have bwe : Below w.heap.size w we := (hbw.trans (bd.mono sw)).trans (grown_below ge (by omega) (by omega))
             have hrun := HL.out we howne
             clear h5 hownd ge bd)
          | (have _t := tok16; refine wp_load (o := ⟨some 16, _, _, _, _, _⟩) (cs := pC x.tx x.n) rfl _ _ rfl agPoint rfl (pC_length HX.out.2.txl _) (h5e.sub (o := 0) (fun j u hu => by rw [Nat.zero_add]; exact inC_pt HX.out.2.txl _ _ hu)) ?_; clear _t tok16)
          | (have _t := tok20; refine wp_load (o := ⟨some 20, _, _, _, _, _⟩) (cs := pC x.tx x.n) rfl _ _ rfl agPoint rfl (pC_length HX.out.2.txl _) (h5e.sub (o := 0) (fun j u hu => by rw [Nat.zero_add]; exact inC_pt HX.out.2.txl _ _ hu)) ?_; clear _t tok20)
          | (at_mapUpdate; refine wpList_mapUpdate_own _ rfl _ _ _ 180 rfl 55 4 lawP Tryd.underlying180 (plainElem (H := Unit) Tryd.prog 4) m k _ rfl howne hroom _ _ _ rfl rfl hkey' _ [] (plainElem_bool Tryd.underlying4 true) ?_; intro w1 hown1 hgrow1))
      · go_ret
        exact ⟨by rw [twiceP_yes hlt ((seenAt_get HX.out.1).trans HP.out)]; rfl, bwe⟩
      · go_roundw
        case rel =>
          refine ⟨k + 1, _, by omega, by go_num, SeenD_succ hD HX.out.1 HX.out.2, fun j hj => ?_, hown1, bwe.grown hgrow1 bwe.size (fun j hj => by cases hj; exact hma)⟩
          rcases Nat.lt_or_ge j k with h | h
          · exact HN.out j h
          · obtain rfl : j = k := by omega
            rw [seenAt_get HX.out.1]
            exact Bool.eq_false_iff.2 HP.out
        case measure => simp [intOf]; omega
    · obtain rfl : k = t.ins.length := by omega
      go_wp2_with fail
      go_ret
      exact ⟨by rw [twiceP_no HN.out]; rfl, hbw⟩
end Go.Proofs.YtjfeehoflahblaaDoor
