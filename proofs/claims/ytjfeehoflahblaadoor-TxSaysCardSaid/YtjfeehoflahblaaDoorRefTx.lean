/- A transaction's bytes, in the reference: the call answers the plain bytes. Conditions: at most 2^39 bytes. -/
import Derived.Test.YtjfeehoflahblaaDoorTxID
namespace Go.Proofs.YtjfeehoflahblaaDoor
open Go.RowKit

set_option maxRecDepth 100000 in
set_option maxHeartbeats 4000000 in
theorem refTxBytes_calls (t : TTx) (A A' : Option Addr) (c c' : Nat) (w : World) (hi : RdIns w w.heap.size A t.ins) (ho : RdOuts w w.heap.size A' t.outs) (hk : t.Ok) (hf : t.Fit) :
    Calls Tryd.prog 14 #[.agg (txC t A c A' c').toArray] w fun e w' => ∃ A' c', e = .returned (.slice A' (txB t).length c') ∧ Ow w' w.heap.size 5 1 A' (txB t).length c' (ub (txB t)) ∧ Below w.heap.size w w' := by
  have HN := Lib.hid hf.b
  have hil := hf.i
  have hol := hf.o
  have hv := Lib.hid hk.ver
  have hti := Lib.hid hk.time
  have hw6 : IntKind.u64.wrap (t.ins.length : Int) = (t.ins.length : Int) := by rw [IntKind.wrap_u64]; omega
  have hq3 : Is64 (t.ins.length : Int) := ⟨by omega, by omega⟩
  go_enter Tryd.func14, Tryd.ntmps14
  go_wp2_with (refine wp_box (o := ⟨some 1, _, _, _, _, _⟩) rfl _ _ rfl rfl ?_; intro g1 wa h1 ba ga
               have h1' : Bk wa g1 26 (txC t A c A' c').toArray := h1
               have e0 : wa.cell? ⟨g1, 0, none⟩ = some (.int .u32 t.ver) := (h1.cell 0).trans rfl
               have e1 : wa.cell? ⟨g1, 1, none⟩ = some (.slice A t.ins.length c) := (h1.cell 1).trans rfl)
  have sa := ba.size
  have on := Ow.nil_ wa.drew w.heap.size 5 1
  have e0d : wa.drew.cell? ⟨g1, 0, none⟩ = some (.int .u32 t.ver) ∧ wa.drew.cell? ⟨g1, 1, none⟩ = some (.slice A t.ins.length c) := ⟨e0, e1⟩
  have e0a : wa.cell? ⟨g1, 0, none⟩ = some (.int .u32 t.ver) ∧ wa.cell? ⟨g1, 1, none⟩ = some (.slice A t.ins.length c) := ⟨e0, e1⟩
  go_region_held3 (fun w' => w'.cell? ⟨g1, 0, none⟩ = some (.int .u32 t.ver) ∧ w'.cell? ⟨g1, 1, none⟩ = some (.slice A t.ins.length c))
    (with_reducible first | exact e0a | exact e0d | exact e0b | exact e0c)
    (first
      | (go_at_call 69; refine (refFour_calls w.heap.size none 0 0 [] t.ver _ on sa (by omega) hv.out).mono ?_; rintro e wb ⟨A1, k1, rfl, o1, f1⟩
         have h1b : Bk wb g1 26 (txC t A c A' c').toArray := h1'.drew.flow f1 on (by decide)
         have bb := ba.drew.trans (f1.below on sa)
         have e0b : wb.cell? ⟨g1, 0, none⟩ = some (.int .u32 t.ver) ∧ wb.cell? ⟨g1, 1, none⟩ = some (.slice A t.ins.length c) := ⟨(h1b.cell 0).trans rfl, (h1b.cell 1).trans rfl⟩)
      | (go_at_call 68; refine (refPut_calls w.heap.size A1 4 k1 ([] ++ le t.ver 4) t.ins.length wb o1 bb.size (by omega) hq3).mono ?_; rintro e wc ⟨A2, k2, rfl, o2, f2⟩
         have h1c : Bk wc g1 26 (txC t A c A' c').toArray := h1b.flow f2 o1 (by decide)
         have bc := bb.trans (f2.below o1 bb.size)
         have e0c : wc.cell? ⟨g1, 0, none⟩ = some (.int .u32 t.ver) ∧ wc.cell? ⟨g1, 1, none⟩ = some (.slice A t.ins.length c) := ⟨(h1c.cell 0).trans rfl, (h1c.cell 1).trans rfl⟩))
  clear hw6 e0 e1 e0a e0d e0b e0c h1 h1' h1b on o1 f1 bb
  have o2' : Ow wc w.heap.size 5 1 A2 (txI t 0).length k2 (ub (txI t 0)) := by
    rw [txI_zero, List.length_append, le_length, putB_length]
    simpa [Nat.zero_add] using o2
  have e0 : 4 + lenN (t.ins.length : Int) = (txI t 0).length := by rw [txI_zero, List.length_append, le_length, putB_length]
  go_wp2
  rw [e0]
  clear e0 o2 f2
  go_loopw [3, 4] (TxIR t w g1 (txC t A c A' c')) (fun _ i _ => t.ins.length - (intOf i).toNat)
  case atStart => exact ⟨0, _, _, by omega, rfl, rfl, o2', h1c, bc⟩
  case round =>
    clear h1c o2' bc
    obtain ⟨k, A3, c3, hk1, rfl, rfl, ho3, hb1, hbw⟩ := hrel
    have c1r : wr.cell? ⟨g1, 1, none⟩ = some (.slice A t.ins.length c) := (hb1.cell 1).trans rfl
    by_cases hlt : k < t.ins.length
    · obtain ⟨x, hx⟩ : ∃ x, t.ins[k]? = some x := ⟨_, List.getElem?_eq_getElem hlt⟩
      obtain ⟨b, o, K, kc, rfl, hbl, hcell, hkey⟩ := hi k x hx
      have hxk := hk.ins x (mem_of_get hx)
      have HXK := Lib.hid hxk
      have hle := txI_in_le t k x hx
      have hsucc := Lib.hid (txI_succ t k x hx)
      rw [inB_length x hxk.txl] at hle
      have HLE := Lib.hid hle
      clear hle hxk
      go_wp2_with (first
        | (refine wp_load (o := ⟨some 26, _, _, _, _, _⟩) (cs := inC x K kc) rfl _ _ rfl agIn rfl (inC_length HXK.out.txl _ _) (fun j u hu => (hbw.cell (p := ⟨b, _, none⟩) hbl).trans (hcell j u hu)) ?_)
        | (refine wp_alloc (o := ⟨some 5, _, _, _, _, _⟩) rfl _ rfl (z := zIn) (by kernel_rfl) ?_; intro g5 wd h5 bd gd
           refine wp_store_all (cs := inC x K kc) rfl _ (.tmp 5) _ rfl agIn rfl rfl h5 (inC_length HXK.out.txl _ _) rfl (inC_one _ _ _) ?_; intro we h5e ge
           have sw := hbw.size
           have sd := bd.size
           have se := ge.size
           have l5 := h5.lt
           have l1 := hb1.lt
           have n15 : ¬ some g1 = some g5 := by intro h; injection h with h; omega
           have b1e := (hb1.same bd).grown ge n15
           have o3e := (ho3.same bd).grown_bk h5 ge (by decide)
           have bwe : Below w.heap.size w we := (hbw.trans (bd.mono sw)).trans (grown_below ge (by omega) (by omega))
           have hrtx : Rd we we.heap.size 1 (some ⟨g5, 0, none⟩) 32 (ub x.tx) := h5e.rd_part (o := 0) (by simp [ub_length, HXK.out.txl]) (fun j u hu => by rw [Nat.zero_add]; exact inC_lt _ _ hu)
           have hq0 : (txI t k).length + 32 ≤ maxLen := by unfold maxLen; have := HLE.out; have := HN.out; omega
           have hq00 : ((txI t k).length + 32) * 1 ≤ 140737488355328 := by have := HLE.out; have := HN.out; omega
           clear h5 hcell ge bd c1r)
        | (at_builtin; refine wp_app_at rfl _ _ _ rfl elB rfl o3e rfl hrtx (ub_one _) hq0 hq00 bwe.size ?_; intro A4 c4 wf o4 f4))
      have h5f := h5e.flow f4 o3e (by decide)
      have h1f := b1e.flow f4 o3e (by decide)
      have bwf := bwe.trans (f4.below o3e bwe.size)
      have i32 := inC_32 HXK.out.txl K kc
      have i33 := inC_33 HXK.out.txl K kc
      have i34 := inC_34 HXK.out.txl K kc
      have HI := Lib.hid (And.intro i32 (And.intro i33 i34))
      clear i32 i33 i34 h5e b1e
      have hlen : x.key.length ≤ 549755813888 := by have := HLE.out; have := HN.out; omega
      have hq1 : (txI t k).length + 32 ≤ 1099511627700 := by have := HLE.out; have := HN.out; omega
      have hq2 : (txI t k).length + 32 + 4 ≤ 1099511627700 := by have := HLE.out; have := HN.out; omega
      have hq4 : (txI t k).length + 36 + lenN (x.key.length : Int) + x.key.length ≤ maxLen := by unfold maxLen; have := HLE.out; have := HN.out; omega
      have hq5 : ((txI t k).length + 36 + lenN (x.key.length : Int) + x.key.length) * 1 ≤ 140737488355328 := by have := HLE.out; have := HN.out; omega
      have hq6 : (txI t k).length + 36 + lenN (x.key.length : Int) + x.key.length ≤ 1099511627700 := by have := HLE.out; have := HN.out; omega
      have hq7 : Is64 (x.key.length : Int) := ⟨by omega, by omega⟩
      have o4u := o4.ub_app
      have s1 : wf.cell? ⟨g5, 32, none⟩ = some (.int .u32 x.n) ∧ wf.cell? ⟨g5, 33, none⟩ = some (.slice K x.key.length kc) := ⟨(h5f.cell 32).trans (by simpa using HI.out.1), (h5f.cell 33).trans (by simpa using HI.out.2.1)⟩
      have s1d : wf.drew.cell? ⟨g5, 32, none⟩ = some (.int .u32 x.n) ∧ wf.drew.cell? ⟨g5, 33, none⟩ = some (.slice K x.key.length kc) := s1
      have o4d : Ow wf.drew w.heap.size 5 1 A4 ((txI t k).length + 32) c4 (ub (txI t k ++ x.tx)) := o4u.drew
      have hw6 : IntKind.u64.wrap (x.key.length : Int) = (x.key.length : Int) := by rw [IntKind.wrap_u64]; omega
      go_wp2
      go_region_held3 (fun w' => w'.cell? ⟨g5, 32, none⟩ = some (.int .u32 x.n) ∧ w'.cell? ⟨g5, 33, none⟩ = some (.slice K x.key.length kc))
        (with_reducible first | exact s1 | exact s1d | exact s2 | exact s3)
        (first
          | (go_at_call 69; refine (refFour_calls w.heap.size A4 ((txI t k).length + 32) c4 (txI t k ++ x.tx) x.n _ o4d bwf.size hq1 HXK.out.n).mono ?_; rintro e wg ⟨A5, k5, rfl, o5, f5⟩
             have h5g := h5f.drew.flow f5 o4d (by decide)
             have h1g := h1f.drew.flow f5 o4d (by decide)
             have bwg := bwf.drew.trans (f5.below o4d bwf.size)
             have o5' : Ow wg w.heap.size 5 1 A5 ((txI t k).length + 36) k5 (ub (txI t k ++ x.tx ++ le x.n 4)) := o5
             have s2 : wg.cell? ⟨g5, 32, none⟩ = some (.int .u32 x.n) ∧ wg.cell? ⟨g5, 33, none⟩ = some (.slice K x.key.length kc) := ⟨(h5g.cell 32).trans (by simpa using HI.out.1), (h5g.cell 33).trans (by simpa using HI.out.2.1)⟩)
          | (go_at_call 68; refine (refPut_calls w.heap.size A5 ((txI t k).length + 36) k5 (txI t k ++ x.tx ++ le x.n 4) x.key.length wg o5' bwg.size hq2 hq7).mono ?_; rintro e wh ⟨A6, k6, rfl, o6, f6⟩
             have h5h := h5g.flow f6 o5' (by decide)
             have h1h := h1g.flow f6 o5' (by decide)
             have bwh := bwg.trans (f6.below o5' bwg.size)
             have s3 : wh.cell? ⟨g5, 32, none⟩ = some (.int .u32 x.n) ∧ wh.cell? ⟨g5, 33, none⟩ = some (.slice K x.key.length kc) := ⟨(h5h.cell 32).trans (by simpa using HI.out.1), (h5h.cell 33).trans (by simpa using HI.out.2.1)⟩))
      clear hw6 s1 s1d s2 s3 h5f h5g h1f h1g bwf bwg o4 o4u o5
      have t1 : wh.cell? ⟨g5, 33, none⟩ = some (.slice K x.key.length kc) ∧ wh.cell? ⟨g5, 34, none⟩ = some (.int .u32 x.seq) := ⟨(h5h.cell 33).trans (by simpa using HI.out.2.1), (h5h.cell 34).trans (by simpa using HI.out.2.2)⟩
      have t1d : wh.drew.cell? ⟨g5, 33, none⟩ = some (.slice K x.key.length kc) ∧ wh.drew.cell? ⟨g5, 34, none⟩ = some (.int .u32 x.seq) := t1
      have rk := hkey.below bwh.drew
      have o6d := o6.drew
      have bwhd := bwh.drew
      go_wp2
      go_region_held3 (fun w' => w'.cell? ⟨g5, 33, none⟩ = some (.slice K x.key.length kc) ∧ w'.cell? ⟨g5, 34, none⟩ = some (.int .u32 x.seq))
        (with_reducible first | exact t1 | exact t1d | exact t2 | exact t3)
        (first
          | ((refine st_app_at (by rfl) _ _ _ rfl elB rfl o6d rfl rk (ub_one _) hq4 hq5 bwhd.size ?_); intro A7 c7 wi o7 f7
             have h5i := h5h.drew.flow f7 o6d (by decide)
             have h1i := h1h.drew.flow f7 o6d (by decide)
             have bwi := bwhd.trans (f7.below o6d bwhd.size)
             have o7u := o7.ub_app
             have t2 : wi.cell? ⟨g5, 33, none⟩ = some (.slice K x.key.length kc) ∧ wi.cell? ⟨g5, 34, none⟩ = some (.int .u32 x.seq) := ⟨(h5i.cell 33).trans (by simpa using HI.out.2.1), (h5i.cell 34).trans (by simpa using HI.out.2.2)⟩)
          | (go_at_call 69; refine (refFour_calls w.heap.size A7 ((txI t k).length + 36 + lenN (x.key.length : Int) + x.key.length) c7 (txI t k ++ x.tx ++ le x.n 4 ++ putB x.key.length ++ x.key) x.seq wi o7u bwi.size hq6 HXK.out.seq).mono ?_; rintro e wj ⟨A8, k8, rfl, o8, f8⟩
             have h5j := h5i.flow f8 o7u (by decide)
             have h1j := h1i.flow f8 o7u (by decide)
             have bwj := bwi.trans (f8.below o7u bwi.size)
             have t3 : wj.cell? ⟨g5, 33, none⟩ = some (.slice K x.key.length kc) ∧ wj.cell? ⟨g5, 34, none⟩ = some (.int .u32 x.seq) := ⟨(h5j.cell 33).trans (by simpa using HI.out.2.1), (h5j.cell 34).trans (by simpa using HI.out.2.2)⟩))
      go_wp2
      go_roundw
      case rel =>
        have hel : (txI t (k + 1)).length = (txI t k).length + 36 + lenN (x.key.length : Int) + x.key.length + 4 := by
          rw [hsucc.out, List.length_append, inB_length x HXK.out.txl]; omega
        have hex : txI t (k + 1) = txI t k ++ x.tx ++ le x.n 4 ++ putB x.key.length ++ x.key ++ le x.seq 4 := by
          rw [hsucc.out]; simp only [inB, List.append_assoc]
        refine ⟨k + 1, A8, k8, by omega, by go_num, ?_, ?_, h1j, bwj⟩
        · rw [hel]
        · rw [hel, hex]; exact o8
      case measure => simp [intOf]; omega
    · obtain rfl : k = t.ins.length := by omega
      have hle := txO_le t 0
      rw [txO_zero, List.length_append, putB_length] at hle
      have hq1 : (txI t t.ins.length).length ≤ 1099511627700 := by have := HN.out; omega
      have c2 : wr.cell? ⟨g1, 2, none⟩ = some (.slice A' t.outs.length c') := (hb1.cell 2).trans rfl
      have hq7 : Is64 (t.outs.length : Int) := ⟨by omega, by omega⟩
      go_wp2_with (go_at_call 68; refine (refPut_calls w.heap.size A3 (txI t t.ins.length).length c3 (txI t t.ins.length) t.outs.length wr ho3 hbw.size hq1 hq7).mono ?_; rintro e wc ⟨A4, k4, rfl, o4, f4⟩
                   have d4 := hb1.flow f4 ho3 (by decide)
                   have bwc := hbw.trans (f4.below ho3 hbw.size))
      have o4' : Ow wc w.heap.size 5 1 A4 (txO t 0).length k4 (ub (txO t 0)) := by
        rw [txO_zero, List.length_append, putB_length]
        exact o4
      have e0 : (txI t t.ins.length).length + lenN (t.outs.length : Int) = (txO t 0).length := by rw [txO_zero, List.length_append, putB_length]
      rw [e0]
      clear e0 o4 f4 ho3 hb1 hbw hle c2 c1r hi
      go_loopw [3, 6] (TxOR t w g1 (txC t A c A' c')) (fun _ i _ => t.outs.length - (intOf i).toNat)
      case atStart => exact ⟨0, _, _, by omega, rfl, rfl, o4', d4, bwc⟩
      case round =>
        clear d4 o4' bwc
        obtain ⟨k, A3, c3, hk1, rfl, rfl, ho3, hb1, hbw⟩ := hrel
        have c2 : wr.cell? ⟨g1, 2, none⟩ = some (.slice A' t.outs.length c') := (hb1.cell 2).trans rfl
        by_cases hlt : k < t.outs.length
        · obtain ⟨x, hx⟩ : ∃ x, t.outs[k]? = some x := ⟨_, List.getElem?_eq_getElem hlt⟩
          obtain ⟨b, o, rfl, hbl, hcell⟩ := ho k x hx
          have hxk := hk.outs x (mem_of_get hx)
          have HXK := Lib.hid hxk
          have hle := txO_out_le t k x hx
          have hsucc := Lib.hid (txO_succ t k x hx)
          rw [outY_length x hxk.lockl] at hle
          have HLE := Lib.hid hle
          have hv0 : wr.cell? ⟨b, o + k * 33, none⟩ = some (.int .u64 x.value) := (hbw.cell (p := ⟨b, _, none⟩) hbl).trans (hcell 0 _ rfl)
          have rk0 : Rd w w.heap.size 1 (some ⟨b, o + k * 33 + 1, none⟩) 32 (ub x.lock) := Rd.of_cells (by simp [ub_length, HXK.out.lockl]) hbl (fun j u hu => by
            have := hcell (j + 1) u (by simpa [outC] using hu)
            rw [show o + k * 33 + 1 + j = o + k * 33 + (j + 1) by omega]; exact this)
          have hq1 : (txO t k).length ≤ 1099511627700 := by have := HLE.out; have := HN.out; omega
          have hq4 : (txO t k).length + 8 + 32 ≤ maxLen := by unfold maxLen; have := HLE.out; have := HN.out; omega
          have hq5 : ((txO t k).length + 8 + 32) * 1 ≤ 140737488355328 := by have := HLE.out; have := HN.out; omega
          have sS : wr.cell? ⟨g1, 2, none⟩ = some (.slice (some ⟨b, o, none⟩) t.outs.length c') ∧ wr.cell? ⟨b, o + k * 33, none⟩ = some (.int .u64 x.value) := ⟨c2, hv0⟩
          have sSd : wr.drew.cell? ⟨g1, 2, none⟩ = some (.slice (some ⟨b, o, none⟩) t.outs.length c') ∧ wr.drew.cell? ⟨b, o + k * 33, none⟩ = some (.int .u64 x.value) := sS
          have j0 : (0 : Int) ≤ (k : Int) := by omega
          have j1 : (k : Int) < (t.outs.length : Int) := by omega
          have o3d := ho3.drew
          have bd := hbw.drew
          clear hle hxk hcell
          go_wp2
          go_region_held3 (fun w' => w'.cell? ⟨g1, 2, none⟩ = some (.slice (some ⟨b, o, none⟩) t.outs.length c') ∧ w'.cell? ⟨b, o + k * 33, none⟩ = some (.int .u64 x.value))
            (with_reducible first | exact sS | exact sSd | exact s2 | exact s3)
            (first
              | ((refine st_app_at (by rfl) _ _ _ rfl elB rfl o6 rfl rk (ub_one _) hq4 hq5 bh.size ?_); intro A7 c7 wi o7 f7
                 have h1i := h1h.flow f7 o6 (by decide)
                 have bi := bh.trans (f7.below o6 bh.size)
                 have s3 : wi.cell? ⟨g1, 2, none⟩ = some (.slice (some ⟨b, o, none⟩) t.outs.length c') ∧ wi.cell? ⟨b, o + k * 33, none⟩ = some (.int .u64 x.value) := ⟨(h1i.cell 2).trans rfl, (bi.cell (p := ⟨b, _, none⟩) hbl).trans ((hbw.cell (p := ⟨b, _, none⟩) hbl).symm.trans hv0)⟩)
              | (go_at_call 70; refine (refEight_calls w.heap.size A3 (txO t k).length c3 (txO t k) x.value _ o3d bd.size hq1 HXK.out.value).mono ?_; rintro e wh ⟨A6, k6, rfl, o6, f6⟩
                 have h1h := hb1.drew.flow f6 o3d (by decide)
                 have bh := bd.trans (f6.below o3d bd.size)
                 have rk := rk0.below bh
                 have s2 : wh.cell? ⟨g1, 2, none⟩ = some (.slice (some ⟨b, o, none⟩) t.outs.length c') ∧ wh.cell? ⟨b, o + k * 33, none⟩ = some (.int .u64 x.value) := ⟨(h1h.cell 2).trans rfl, (bh.cell (p := ⟨b, _, none⟩) hbl).trans ((hbw.cell (p := ⟨b, _, none⟩) hbl).symm.trans hv0)⟩))
          have o7u := o7.ub_app
          go_wp2
          go_roundw
          case rel =>
            have hel : (txO t (k + 1)).length = (txO t k).length + 40 := by
              rw [hsucc.out, List.length_append, outY_length x HXK.out.lockl]
            have hex : txO t (k + 1) = txO t k ++ le x.value 8 ++ x.lock := by
              rw [hsucc.out]; simp only [outY, List.append_assoc]
            refine ⟨k + 1, A7, c7, by omega, by go_num, ?_, ?_, h1i, bi⟩
            · rw [hel]
            · rw [hel, hex]
              exact o7u
          case measure => simp [intOf]; omega
        · obtain rfl : k = t.outs.length := by omega
          have hle := txO_le t t.outs.length
          have c3c : wr.cell? ⟨g1, 3, none⟩ = some (.int .u32 t.time) := (hb1.cell 3).trans rfl
          have hq1 : (txO t t.outs.length).length ≤ 1099511627700 := by have := HN.out; omega
          go_wp2_with (go_at_call 69; refine (refFour_calls w.heap.size A3 (txO t t.outs.length).length c3 (txO t t.outs.length) t.time wr ho3 hbw.size hq1 hti.out).mono ?_; rintro e wj ⟨A8, k8, rfl, o8, f8⟩)
          go_ret
          have hel : (txB t).length = (txO t t.outs.length).length + 4 := by rw [txB_eq, List.length_append, le_length]
          refine ⟨A8, k8, by rw [hel]; rfl, ?_, hbw.trans (f8.below ho3 hbw.size)⟩
          rw [hel, txB_eq]
          exact o8
theorem refTxBytes_any (cs : List Value) (t : TTx) (w : World) (h : RdTx w w.heap.size cs t) (hk : t.Ok) (hf : t.Fit) :
    Calls Tryd.prog 14 #[.agg cs.toArray] w fun e w' => ∃ A' c', e = .returned (.slice A' (txB t).length c') ∧ Ow w' w.heap.size 5 1 A' (txB t).length c' (ub (txB t)) ∧ Below w.heap.size w w' := by
  obtain ⟨A, c, A', c', rfl, h1, h2⟩ := h
  exact refTxBytes_calls t A A' c c' w h1 h2 hk hf
set_option maxRecDepth 100000 in
theorem refTxSize_calls (cs : List Value) (t : TTx) (w : World) (h : RdTx w w.heap.size cs t) (hk : t.Ok) (hf : t.Fit) :
    Calls Tryd.prog 32 #[.agg cs.toArray] w fun e w' => e = .returned (.int .i64 (txB t).length) ∧ Below w.heap.size w w' := by
  have hb := hf.b
  have hl : cs.length = 4 := by obtain ⟨A, c, A', c', rfl, _⟩ := h; rfl
  have HL := Lib.hid hl
  clear hl
  go_enter Tryd.func32, Tryd.ntmps32
  go_wp2_with (first
    | (refine wp_box (o := ⟨some 1, _, _, _, _, _⟩) rfl _ _ rfl rfl ?_; intro g1 wa h1 ba ga; have h1' : Bk wa g1 26 cs.toArray := h1)
    | (refine wp_load (o := ⟨some 3, _, _, _, _, _⟩) (cs := cs) rfl _ _ rfl agTx rfl HL.out (Bk.all h1') ?_)
    | (go_at_call 14; refine (refTxBytes_any cs t wa ((h.below ba).more ba.size) hk hf).mono ?_; rintro e wb ⟨A', c', rfl, ho, bb⟩))
  go_ret
  exact ⟨rfl, ba.trans (bb.mono ba.size)⟩
end Go.Proofs.YtjfeehoflahblaaDoor
