/- A transaction's bytes, in the program: the call answers the plain bytes. Conditions: at most 2^39 bytes. -/
import Derived.Test.YtjfeehoflahblaaDoorRead
import Derived.Test.YtjfeehoflahblaaDoorTwice
import Derived.Deep.RegionHeld3
namespace Go.Proofs.YtjfeehoflahblaaDoor
open Go.RowKit

theorem agIn : Ag Tryd.prog 57 35 := ⟨_, Tryd.underlying57, rfl, by kernel_rfl⟩
theorem agOut : Ag Tryd.prog 59 33 := ⟨_, Tryd.underlying59, rfl, by kernel_rfl⟩
def zIn : Value := .agg (inC ⟨List.replicate 32 0, 0, [], 0⟩ none 0).toArray
def zOut : Value := .agg (outC ⟨0, List.replicate 32 0⟩).toArray

def TxIR (t : TTx) (W : World) (g1 : Nat) (cs : List Value) (b i : Value) (wr : World) : Prop :=
  ∃ (k : Nat) (A' : Option Addr) (c' : Nat), k ≤ t.ins.length ∧ i = .int .i64 k ∧ b = .slice A' (txI t k).length c' ∧ Ow wr W.heap.size 5 1 A' (txI t k).length c' (ub (txI t k)) ∧ Bk wr g1 26 cs.toArray ∧ Below W.heap.size W wr
def TxOR (t : TTx) (W : World) (g1 : Nat) (cs : List Value) (b i : Value) (wr : World) : Prop :=
  ∃ (k : Nat) (A' : Option Addr) (c' : Nat), k ≤ t.outs.length ∧ i = .int .i64 k ∧ b = .slice A' (txO t k).length c' ∧ Ow wr W.heap.size 5 1 A' (txO t k).length c' (ub (txO t k)) ∧ Bk wr g1 26 cs.toArray ∧ Below W.heap.size W wr

set_option maxRecDepth 100000 in
set_option maxHeartbeats 1000000 in
theorem txBytes_calls (t : TTx) (A A' : Option Addr) (c c' : Nat) (w : World) (hi : RdIns w w.heap.size A t.ins) (ho : RdOuts w w.heap.size A' t.outs) (hk : t.Ok) (hn : (txB t).length ≤ 549755813888) (hil : t.ins.length ≤ 549755813888) (hol : t.outs.length ≤ 549755813888) :
    Calls Tryd.prog 16 #[.agg (txC t A c A' c').toArray] w fun e w' => ∃ A' c', e = .returned (.slice A' (txB t).length c') ∧ Ow w' w.heap.size 5 1 A' (txB t).length c' (ub (txB t)) ∧ Below w.heap.size w w' := by
  have HN := Lib.hid hn
  have hv := Lib.hid hk.ver
  have hti := Lib.hid hk.time
  clear hn
  go_enter Tryd.func16, Tryd.ntmps16
  go_wp2_with (first
    | (refine wp_box (o := ⟨some 1, _, _, _, _, _⟩) rfl _ _ rfl rfl ?_; intro g1 wa h1 ba ga
       have c0 : wa.cell? ⟨g1, 0, none⟩ = some (.int .u32 t.ver) := (h1.cell 0).trans rfl
       have c1 : wa.cell? ⟨g1, 1, none⟩ = some (.slice A t.ins.length c) := (h1.cell 1).trans rfl)
    | (go_at_call 71; refine (four_calls none 0 0 [] t.ver wa (Rd.nil_ _ _ _ _) (by omega) hv.out).mono ?_; rintro e wb ⟨A1, k1, rfl, o1, bb⟩
       have d1 := h1.same bb
       have c1b : wb.cell? ⟨g1, 1, none⟩ = some (.slice A t.ins.length c) := (d1.cell 1).trans rfl)
    | (go_at_call 72; refine (put_calls A1 (0 + 4) k1 ([] ++ le t.ver 4) t.ins.length wb o1.rd (by omega) ⟨by omega, by omega⟩).mono ?_; rintro e wc ⟨A2, k2, rfl, o2, bc⟩
       have d2 := d1.same bc
       have c1c : wc.cell? ⟨g1, 1, none⟩ = some (.slice A t.ins.length c) := (d2.cell 1).trans rfl))
  have o2' : Ow wc w.heap.size 5 1 A2 (txI t 0).length k2 (ub (txI t 0)) := by
    have := o2.down (Nat.le_trans ba.size bb.size)
    rw [txI_zero, List.length_append, le_length, putB_length]
    simpa [Nat.zero_add] using this
  have e0 : 0 + 4 + lenN (t.ins.length : Int) = (txI t 0).length := by rw [txI_zero, List.length_append, le_length, putB_length]
  rw [e0]
  have bwc : Below w.heap.size w wc := ba.trans ((bb.mono ba.size).trans (bc.mono (Nat.le_trans ba.size bb.size)))
  clear e0 o2 o1 c0 c1 c1b c1c d1 h1
  go_loopw [3, 20] (TxIR t w g1 (txC t A c A' c'))
    (fun _ i _ => t.ins.length - (intOf i).toNat)
  case atStart => exact ⟨0, _, _, by omega, rfl, rfl, o2', d2, bwc⟩
  case round =>
    clear d2 o2' bwc
    obtain ⟨k, A3, c3, hk1, rfl, rfl, ho3, hb1, hbw⟩ := hrel
    by_cases hlt : k < t.ins.length
    · obtain ⟨x, hx⟩ : ∃ x, t.ins[k]? = some x := ⟨_, List.getElem?_eq_getElem hlt⟩
      obtain ⟨b, o, K, kc, rfl, hbl, hcell, hkey⟩ := hi k x hx
      have hxk := hk.ins x (mem_of_get hx)
      have HXK := Lib.hid hxk
      have hle := txI_in_le t k x hx
      have hsucc := Lib.hid (txI_succ t k x hx)
      rw [inB_length x hxk.txl] at hle
      have HLE := Lib.hid hle
      clear hle hxk
      go_wp2_with (first
        | (refine wp_load (o := ⟨some 23, _, _, _, _, _⟩) (cs := inC x K kc) rfl _ _ rfl agIn rfl (inC_length HXK.out.txl _ _) (fun j u hu => (hbw.cell (p := ⟨b, _, none⟩) hbl).trans (hcell j u hu)) ?_)
        | (refine wp_alloc (o := ⟨some 5, _, _, _, _, _⟩) rfl _ rfl (z := zIn) (by kernel_rfl) ?_; intro g5 wd h5 bd gd
           refine wp_store_all (cs := inC x K kc) rfl _ (.tmp 5) _ rfl agIn rfl rfl h5 (inC_length HXK.out.txl _ _) rfl (inC_one _ _ _) ?_; intro we h5e ge))
      have sw := hbw.size
      have sd := bd.size
      have se := ge.size
      have l5 := h5.lt
      have l1 := hb1.lt
      have n15 : ¬ some g1 = some g5 := by intro h; injection h with h; omega
      have b1e := (hb1.same bd).grown ge n15
      have o3e := (ho3.same bd).grown_bk h5 ge (by decide)
      have bwe : Below w.heap.size w we := (hbw.trans (bd.mono sw)).trans (grown_below ge (by omega) (by omega))
      have hrtx : Rd we we.heap.size 1 (some ⟨g5, 0, none⟩) 32 (ub x.tx) := h5e.rd_part (o := 0) (by simp [ub_length, HXK.out.txl]) (fun j u hu => by rw [Nat.zero_add]; exact inC_lt _ _ hu)
      have hkeyE : Rd we w.heap.size 1 K x.key.length (ub x.key) := hkey.below bwe
      clear h5 hcell
      have e32 : we.cell? ⟨g5, 32, none⟩ = some (.int .u32 x.n) := (h5e.cell 32).trans (by simpa using inC_32 HXK.out.txl K kc)
      go_wp2
      have i32 := inC_32 HXK.out.txl K kc
      have i33 := inC_33 HXK.out.txl K kc
      have i34 := inC_34 HXK.out.txl K kc
      have HI := Lib.hid (And.intro i32 (And.intro i33 i34))
      clear i32 i33 i34
      have e32d : we.drew.cell? ⟨g5, 32, none⟩ = some (.int .u32 x.n) := e32
      have hlen : x.key.length ≤ 549755813888 := by have := HLE.out; have := HN.out; omega
      have hq1 : (txI t k).length + 32 ≤ 1099511627700 := by have := HLE.out; have := HN.out; omega
      have hq2 : (txI t k).length + 36 ≤ 1099511627700 := by have := HLE.out; have := HN.out; omega
      have hq4 : (txI t k).length + 36 + lenN (x.key.length : Int) + x.key.length ≤ maxLen := by unfold maxLen; have := HLE.out; have := HN.out; omega
      have hq5 : ((txI t k).length + 36 + lenN (x.key.length : Int) + x.key.length) * 1 ≤ 140737488355328 := by have := HLE.out; have := HN.out; omega
      have hq6 : (txI t k).length + 36 + lenN (x.key.length : Int) + x.key.length ≤ 1099511627700 := by have := HLE.out; have := HN.out; omega
      have hq3 : Is64 (x.key.length : Int) := ⟨by omega, by omega⟩
      go_region_held3 (fun w' => w'.cell? ⟨g5, 32, none⟩ = some (.int .u32 x.n))
        (with_reducible first | exact e32 | exact e32d | exact e32f | exact e32g)
        (first
          | ((refine st_app_at (by rfl) _ _ _ rfl elB rfl o3e.drew rfl hrtx.drew (ub_one _) (by unfold maxLen; have := HLE.out; have := HN.out; omega) (by have := HLE.out; have := HN.out; omega) bwe.size ?_); intro A4 c4 wf o4 f4; have h5f := h5e.drew.flow f4 o3e.drew (by decide); have h1f := b1e.drew.flow f4 o3e.drew (by decide); have e32f : wf.cell? ⟨g5, 32, none⟩ = some (.int .u32 x.n) := (h5f.cell 32).trans (by simpa using HI.out.1); have bwf := bwe.drew.trans (f4.below o3e.drew bwe.size); have r4 := o4.ub_app.rd)
          | (go_at_call 71; refine (four_calls A4 ((txI t k).length + 32) c4 (txI t k ++ x.tx) x.n wf r4 hq1 HXK.out.n).mono ?_; rintro e wg ⟨A5, k5, rfl, o5, bg⟩; have h5g := h5f.same bg; have e32g : wg.cell? ⟨g5, 32, none⟩ = some (.int .u32 x.n) := (h5g.cell 32).trans (by simpa using HI.out.1)))
      have h1g := h1f.same bg
      have bwg := bwf.trans (bg.mono bwf.size)
      have r5 : Rd wg.drew wg.drew.heap.size 1 A5 ((txI t k).length + 36) (ub (txI t k ++ x.tx ++ le x.n 4)) := o5.rd.drew
      clear h5f h1f h5e b1e e32 e32d e32f e32g r4
      have e33 : wg.cell? ⟨g5, 33, none⟩ = some (.slice K x.key.length kc) := (h5g.cell 33).trans (by simpa using HI.out.2.1)
      have e33d : wg.drew.cell? ⟨g5, 33, none⟩ = some (.slice K x.key.length kc) := e33
      have hw6 : IntKind.u64.wrap (x.key.length : Int) = (x.key.length : Int) := by rw [IntKind.wrap_u64]; omega
      go_wp2
      go_region_held3 (fun w' => w'.cell? ⟨g5, 33, none⟩ = some (.slice K x.key.length kc))
        (with_reducible first | exact e33 | exact e33d | exact e33h | exact e33i)
        (first
          | ((refine st_app_at (by rfl) _ _ _ rfl elB rfl o6d rfl rk (ub_one _) hq4 hq5 bwh.size ?_); intro A7 c7 wi o7 f7; have h5i := h5h.flow f7 o6d (by decide); have e33i : wi.cell? ⟨g5, 33, none⟩ = some (.slice K x.key.length kc) := (h5i.cell 33).trans (by simpa using HI.out.2.1))
          | (go_at_call 72; refine (put_calls A5 ((txI t k).length + 36) k5 (txI t k ++ x.tx ++ le x.n 4) x.key.length _ r5 hq2 hq3).mono ?_; rintro e wh ⟨A6, k6, rfl, o6, bh⟩
             have h5h := h5g.drew.same bh; have e33h : wh.cell? ⟨g5, 33, none⟩ = some (.slice K x.key.length kc) := (h5h.cell 33).trans (by simpa using HI.out.2.1)
             have bwh := bwg.drew.trans (bh.mono bwg.size)
             have o6d := o6.down bwg.size
             have rk := hkey.below bwh))
      clear hw6
      have h1i := (h1g.drew.same bh).flow f7 o6d (by decide)
      have bwi := bwh.trans (f7.below o6d bwh.size)
      have o7u := o7.ub_app
      have e34 : wi.cell? ⟨g5, 34, none⟩ = some (.int .u32 x.seq) := (h5i.cell 34).trans (by simpa using HI.out.2.2)
      have r7 := o7u.rd
      go_wp2_with (go_at_call 71; refine (four_calls A7 ((txI t k).length + 36 + lenN (x.key.length : Int) + x.key.length) c7 (txI t k ++ x.tx ++ le x.n 4 ++ putB x.key.length ++ x.key) x.seq wi r7 hq6 HXK.out.seq).mono ?_; rintro e wj ⟨A8, k8, rfl, o8, bj⟩)
      go_roundw
      case rel =>
        have hel : (txI t (k + 1)).length = (txI t k).length + 36 + lenN (x.key.length : Int) + x.key.length + 4 := by
          rw [hsucc.out, List.length_append, inB_length x HXK.out.txl]; omega
        have hex : txI t (k + 1) = txI t k ++ x.tx ++ le x.n 4 ++ putB x.key.length ++ x.key ++ le x.seq 4 := by
          rw [hsucc.out]; simp only [inB, List.append_assoc]
        refine ⟨k + 1, A8, k8, by omega, by go_num, ?_, ?_, h1i.same bj, bwi.trans (bj.mono bwi.size)⟩
        · rw [hel]
        · have := o8.down bwi.size
          rw [hel, hex]
          exact this
      case measure => simp [intOf]; omega
    · obtain rfl : k = t.ins.length := by omega
      have hle := txO_le t 0
      rw [txO_zero, List.length_append, putB_length] at hle
      have hq1 : (txI t t.ins.length).length ≤ 1099511627700 := by have := HN.out; omega
      have c2 : wr.cell? ⟨g1, 2, none⟩ = some (.slice A' t.outs.length c') := (hb1.cell 2).trans rfl
      have r3 := ho3.rd
      go_wp2_with (go_at_call 72; refine (put_calls A3 (txI t t.ins.length).length c3 (txI t t.ins.length) t.outs.length wr r3 hq1 ⟨by omega, by omega⟩).mono ?_; rintro e wc ⟨A4, k4, rfl, o4, bc⟩
                   have d4 := hb1.same bc
                   have c2c : wc.cell? ⟨g1, 2, none⟩ = some (.slice A' t.outs.length c') := (d4.cell 2).trans rfl)
      have o4' : Ow wc w.heap.size 5 1 A4 (txO t 0).length k4 (ub (txO t 0)) := by
        have := o4.down hbw.size
        rw [txO_zero, List.length_append, putB_length]
        exact this
      have e0 : (txI t t.ins.length).length + lenN (t.outs.length : Int) = (txO t 0).length := by rw [txO_zero, List.length_append, putB_length]
      rw [e0]
      have bwc : Below w.heap.size w wc := hbw.trans (bc.mono hbw.size)
      clear e0 o4 ho3 hb1 hbw hle r3 c2 c2c hi
      go_loopw [3, 56] (TxOR t w g1 (txC t A c A' c')) (fun _ i _ => t.outs.length - (intOf i).toNat)
      case atStart => exact ⟨0, _, _, by omega, rfl, rfl, o4', d4, bwc⟩
      case round =>
        clear d4 o4' bwc
        obtain ⟨k, A3, c3, hk1, rfl, rfl, ho3, hb1, hbw⟩ := hrel
        by_cases hlt : k < t.outs.length
        · obtain ⟨x, hx⟩ : ∃ x, t.outs[k]? = some x := ⟨_, List.getElem?_eq_getElem hlt⟩
          obtain ⟨b, o, rfl, hbl, hcell⟩ := ho k x hx
          have hxk := hk.outs x (mem_of_get hx)
          have HXK := Lib.hid hxk
          have hle := txO_out_le t k x hx
          have hsucc := Lib.hid (txO_succ t k x hx)
          rw [outY_length x hxk.lockl] at hle
          have HLE := Lib.hid hle
          clear hle hxk
          go_wp2_with (first
            | (refine wp_load (o := ⟨some 59, _, _, _, _, _⟩) (cs := outC x) rfl _ _ rfl agOut rfl (outC_length HXK.out.lockl) (fun j u hu => (hbw.cell (p := ⟨b, _, none⟩) hbl).trans (hcell j u hu)) ?_)
            | (refine wp_alloc (o := ⟨some 7, _, _, _, _, _⟩) rfl _ rfl (z := zOut) (by kernel_rfl) ?_; intro g5 wd h5 bd gd
               refine wp_store_all (cs := outC x) rfl _ (.tmp 7) _ rfl agOut rfl rfl h5 (outC_length HXK.out.lockl) rfl (outC_one _) ?_; intro we h5e ge))
          have sw := hbw.size
          have sd := bd.size
          have se := ge.size
          have l5 := h5.lt
          have l1 := hb1.lt
          have n15 : ¬ some g1 = some g5 := by intro h; injection h with h; omega
          have b1e := (hb1.same bd).grown ge n15
          have o3e := (ho3.same bd).grown_bk h5 ge (by decide)
          have bwe : Below w.heap.size w we := (hbw.trans (bd.mono sw)).trans (grown_below ge (by omega) (by omega))
          clear h5 hcell
          have e0 : we.cell? ⟨g5, 0, none⟩ = some (.int .u64 x.value) := (h5e.cell 0).trans rfl
          have e0d : we.drew.cell? ⟨g5, 0, none⟩ = some (.int .u64 x.value) := e0
          have hq1 : (txO t k).length ≤ 1099511627700 := by have := HLE.out; have := HN.out; omega
          have hq4 : (txO t k).length + 8 + 32 ≤ maxLen := by unfold maxLen; have := HLE.out; have := HN.out; omega
          have hq5 : ((txO t k).length + 8 + 32) * 1 ≤ 140737488355328 := by have := HLE.out; have := HN.out; omega
          have r3 : Rd we.drew we.drew.heap.size 1 A3 (txO t k).length (ub (txO t k)) := o3e.rd.drew
          go_wp2
          go_region_held3 (fun w' => w'.cell? ⟨g5, 0, none⟩ = some (.int .u64 x.value))
            (with_reducible first | exact e0 | exact e0d | exact e0h | exact e0i)
            (first
              | ((refine st_app_at (by rfl) _ _ _ rfl elB rfl o6d rfl rk (ub_one _) hq4 hq5 bwh.size ?_); intro A7 c7 wi o7 f7; have h5i := h5h.flow f7 o6d (by decide); have e0i : wi.cell? ⟨g5, 0, none⟩ = some (.int .u64 x.value) := (h5i.cell 0).trans rfl)
              | (go_at_call 73; refine (eight_calls A3 (txO t k).length c3 (txO t k) x.value _ r3 hq1 HXK.out.value).mono ?_; rintro e wh ⟨A6, k6, rfl, o6, bh⟩
                 have h5h := h5e.drew.same bh; have e0h : wh.cell? ⟨g5, 0, none⟩ = some (.int .u64 x.value) := (h5h.cell 0).trans rfl
                 have bwh := bwe.drew.trans (bh.mono bwe.size)
                 have o6d := o6.down bwe.size
                 have rk : Rd wh wh.heap.size 1 (some ⟨g5, 0 + 1, none⟩) 32 (ub x.lock) := h5h.rd_part (o := 1) (by simp [ub_length, HXK.out.lockl]) (fun j u hu => by rw [Nat.add_comm]; simpa [outC] using hu)))
          have h1i := (b1e.drew.same bh).flow f7 o6d (by decide)
          have bwi := bwh.trans (f7.below o6d bwh.size)
          have o7u := o7.ub_app
          go_wp2
          go_roundw
          case rel =>
            have hel : (txO t (k + 1)).length = (txO t k).length + 40 := by
              rw [hsucc.out, List.length_append, outY_length x HXK.out.lockl]
            have hex : txO t (k + 1) = txO t k ++ le x.value 8 ++ x.lock := by
              rw [hsucc.out]; simp only [outY, List.append_assoc]
            refine ⟨k + 1, A7, c7, by omega, by go_num, ?_, ?_, h1i, bwi⟩
            · rw [hel]
            · rw [hel, hex]
              exact o7u
          case measure => simp [intOf]; omega
        · obtain rfl : k = t.outs.length := by omega
          have hle := txO_le t t.outs.length
          have c3c : wr.cell? ⟨g1, 3, none⟩ = some (.int .u32 t.time) := (hb1.cell 3).trans rfl
          have hq1 : (txO t t.outs.length).length ≤ 1099511627700 := by have := HN.out; omega
          have r3 := ho3.rd
          go_wp2_with (go_at_call 71; refine (four_calls A3 (txO t t.outs.length).length c3 (txO t t.outs.length) t.time wr r3 hq1 hti.out).mono ?_; rintro e wj ⟨A8, k8, rfl, o8, bj⟩)
          go_ret
          have hel : (txB t).length = (txO t t.outs.length).length + 4 := by rw [txB_eq, List.length_append, le_length]
          refine ⟨A8, k8, by rw [hel]; rfl, ?_, hbw.trans (bj.mono hbw.size)⟩
          rw [hel, txB_eq]
          exact o8.down hbw.size
end Go.Proofs.YtjfeehoflahblaaDoor
