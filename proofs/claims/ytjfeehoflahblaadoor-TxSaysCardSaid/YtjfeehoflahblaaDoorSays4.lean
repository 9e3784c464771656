/- TxSays walks: the statement's function returns true, for every two transactions. Conditions: the sentinels lie as the program's text lays them (Errs). -/
import Derived.Test.YtjfeehoflahblaaDoorLight4
namespace Go.Proofs.YtjfeehoflahblaaDoor
open Go.RowKit

set_option maxRecDepth 100000 in
set_option maxHeartbeats 4000000 in
theorem says4_calls {E : Nat → Addr} (t u : TTx) (A A' B B' : Option Addr) (c c' d d' : Nat) (w : World) (he : Errs w E) (hit : RdIns w w.heap.size A t.ins) (hot : RdOuts w w.heap.size A' t.outs) (hiu : RdIns w w.heap.size B u.ins) (hou : RdOuts w w.heap.size B' u.outs)
    (kt : t.Ok) (ku : u.Ok) :
    Calls Tryd.prog 3 #[.agg (txC t A c A' c').toArray, .agg (txC u B d B' d').toArray] w fun x w' => x = .returned (.bool true) ∧ Below w.heap.size w w' := by
  have HE := Lib.hid he
  have KT := Lib.hid kt
  have KU := Lib.hid ku
  have HT := Lib.hid (And.intro hit hot)
  have HU := Lib.hid (And.intro hiu hou)
  clear he kt ku hit hot hiu hou
  have LT := Lib.hid (fun (wx : World) (bx : Below w.heap.size w wx) => light_calls t A A' c c' wx ((HT.out.1.below bx).more bx.size) KT.out)
  have LU := Lib.hid (fun (wx : World) (bx : Below w.heap.size w wx) => light_calls u B B' d d' wx ((HU.out.1.below bx).more bx.size) KU.out)
  have tok2 : True := trivial
  have tok3 : True := trivial
  have tok10 : True := trivial
  have tok14 : True := trivial
  have tok19 : True := trivial
  by_cases lt : lightP t = true
  · rw [lt] at LT
    have FT := Lib.hid (light_fit KT.out lt)
    clear lt
    by_cases lu : lightP u = true
    · rw [lu] at LU
      have FU := Lib.hid (light_fit KU.out lu)
      clear lu
      go_enter Tryd.func3, Tryd.ntmps3
      go_wp2_with (first
        | (have _t := tok2; refine wp_box (o := ⟨some 2, _, _, _, _, _⟩) rfl _ _ rfl rfl ?_; intro g2 wa h2 ba ga; clear _t tok2
           have h2q : Bk wa g2 26 (txC t A c A' c').toArray := h2)
        | (have _t := tok3; refine wp_box (o := ⟨some 3, _, _, _, _, _⟩) rfl _ _ rfl rfl ?_; intro g3 wb h3 bb gb; clear _t tok3
           have h2' : Bk wb g2 26 (txC t A c A' c').toArray := h2q.same bb
           have h3' : Bk wb g3 26 (txC u B d B' d').toArray := h3
           have bwb := ba.trans (bb.mono ba.size)))
      clear h2 h3 h2q
      refine (first4_calls wb).mono ?_
      rintro e wc ⟨rfl, bc⟩
      have bwc := bwb.trans (bc.mono bwb.size)
      have h2c := h2'.same bc
      have h3c := h3'.same bc
      go_wp2_with (have _t := tok10; refine wp_load (o := ⟨some 10, _, _, _, _, _⟩) (cs := txC t A c A' c') rfl _ _ rfl agTx rfl rfl (Bk.all h2c) ?_; clear _t tok10)
      refine (LT.out wc bwc).mono ?_
      rintro e wd ⟨rfl, bd⟩
      have bwd := bwc.trans (bd.mono bwc.size)
      have h2d := h2c.same bd
      have h3d := h3c.same bd
      go_wp2_with (have _t := tok14; refine wp_load_g (o := ⟨some 14, _, _, _, _, _⟩) (by rfl) _ _ rfl agTx rfl (cs := txC u B d B' d') rfl (Bk.all h3d) ?_; clear _t tok14)
      refine (LU.out wd bwd).mono ?_
      rintro e wf ⟨rfl, bf⟩
      have bwf := bwd.trans (bf.mono bwd.size)
      have h2f := h2d.same bf
      have h3f := h3d.same bf
      go_wp2_with (have _t := tok19; refine wp_load (o := ⟨some 19, _, _, _, _, _⟩) (cs := txC t A c A' c') rfl _ _ rfl agTx rfl rfl (Bk.all h2f) ?_; clear _t tok19)
      refine (refTxBytes_any _ t wf ⟨A, c, A', c', rfl, (HT.out.1.below bwf).more bwf.size, (HT.out.2.below bwf).more bwf.size⟩ KT.out FT.out).mono ?_
      rintro e wr ⟨A6, c6, rfl, o6, br⟩
      have bwr := bwf.trans (br.mono bwf.size)
      have r6 := o6.rd
      have k0 : wr.rangeAt g2 0 (txC t A c A' c') := Bk.all (h2f.same br)
      have k1 : wr.rangeAt g3 0 (txC u B d B' d') := Bk.all (h3f.same br)
      have RT := Lib.hid (fun (wx : World) (bx : Below w.heap.size w wx) => (⟨A, c, A', c', rfl, (HT.out.1.below bx).more bx.size, (HT.out.2.below bx).more bx.size⟩ : RdTx wx wx.heap.size (txC t A c A' c') t))
      have hb := FT.out.b
      have e1 : ((txB t).length : Int) = ((txB t).length : Int) := rfl
      clear h2c h3c h2d h3d h2' h3' h2f h3f o6
      go_wp2_with fail
      refine wp_region_held_drew (S := fun w' => w'.rangeAt g2 (0) (txC t A c A' c') ∧ w'.rangeAt g3 (0) (txC u B d B' d')) (by kernel_rfl) ⟨k0, k1⟩ (fun hHeld => ?_)
      refine wpAnyH_take (i := 0) (oi := ⟨some 21, _, _, _, _, _⟩) (v := .bool true) rfl (by kernel_rfl) (by kernel_rfl) (by kernel_rfl) (fun _ _ _ h => h) (.inl ⟨by rfl, fun w' hS => by go_simp⟩) hHeld ?_
      simp only [Act.put, List.setIfInBounds_toArray, List.set_cons_zero, List.set_cons_succ]
      refine wpAnyH_take (i := 1) (oi := ⟨some 22, _, _, _, _, _⟩) (v := .bool true) rfl (by kernel_rfl) (by kernel_rfl) (by kernel_rfl) (fun _ _ _ h => h) (.inl ⟨by rfl, fun w' hS => by go_simp⟩) hHeld ?_
      simp only [Act.put, List.setIfInBounds_toArray, List.set_cons_zero, List.set_cons_succ]
      refine wpAnyH_take (i := 2) (oi := ⟨some 23, _, _, _, _, _⟩) (v := .agg (txC t A c A' c').toArray) rfl (by kernel_rfl) (by kernel_rfl) (by kernel_rfl) (fun _ _ _ h => h) (.inl ⟨by rfl, fun w' hS => exec_load _ _ rfl agTx rfl rfl hS.1⟩) hHeld ?_
      simp only [Act.put, List.setIfInBounds_toArray, List.set_cons_zero, List.set_cons_succ]
      refine wpAnyH_take (i := 4) (oi := ⟨some 25, _, _, _, _, _⟩) (v := .slice A6 (txB t).length c6) rfl (by kernel_rfl) (by kernel_rfl) (by kernel_rfl) (fun _ _ _ h => h) (.inl ⟨by rfl, fun w' hS => by go_simp⟩) hHeld ?_
      simp only [Act.put, List.setIfInBounds_toArray, List.set_cons_zero, List.set_cons_succ]
      refine hOne (i := 3) (o := ⟨some 24, _, _, _, _, _⟩) (by kernel_rfl) rfl (by rfl) ?_
      go_simp
      refine (txBytes_any _ t _ (RT.out _ bwr.drew) KT.out FT.out).mono ?_
      rintro e w24 ⟨A24, c24, rfl, o24, b24⟩
      have r24 := o24.rd
      have r6a := (r6.drew.below b24).more b24.size
      have q24 := bwr.drew.trans (b24.mono bwr.size)
      have hQ : (fun w' : World => w'.rangeAt g2 (0) (txC t A c A' c') ∧ w'.rangeAt g3 (0) (txC u B d B' d')) w24 := ⟨rng_bel b24 hHeld.1, rng_bel b24 hHeld.2⟩
      clear hHeld
      refine ⟨hQ, ?_⟩
      have hHeld := hQ
      clear hQ
      refine hOne (i := 5) (o := ⟨some 26, _, _, _, _, _⟩) (by kernel_rfl) rfl (by rfl) ?_
      go_simp
      have H26 := sameBytes_calls A24 A6 _ _ c24 c6 (txB t) (txB t) w24 r24 r6a (by omega) (by omega)
      rw [decide_eq_true rfl] at H26
      refine H26.mono ?_
      clear H26
      rintro e w26 ⟨rfl, b26⟩
      have r6b := (r6a.below b26).more b26.size
      have q26 := q24.trans (b26.mono q24.size)
      have hQ : (fun w' : World => w'.rangeAt g2 (0) (txC t A c A' c') ∧ w'.rangeAt g3 (0) (txC u B d B' d')) w26 := ⟨rng_bel b26 hHeld.1, rng_bel b26 hHeld.2⟩
      clear hHeld
      refine ⟨hQ, ?_⟩
      have hHeld := hQ
      clear hQ
      refine wpAnyH_take (i := 6) (oi := ⟨some 27, _, _, _, _, _⟩) (v := .bool true) rfl (by kernel_rfl) (by kernel_rfl) (by kernel_rfl) (fun _ _ _ h => h) (.inl ⟨by rfl, fun w' hS => by go_simp⟩) hHeld ?_
      simp only [Act.put, List.setIfInBounds_toArray, List.set_cons_zero, List.set_cons_succ]
      refine wpAnyH_take (i := 7) (oi := ⟨some 28, _, _, _, _, _⟩) (v := .bool true) rfl (by kernel_rfl) (by kernel_rfl) (by kernel_rfl) (fun _ _ _ h => h) (.inl ⟨by rfl, fun w' hS => by go_simp⟩) hHeld ?_
      simp only [Act.put, List.setIfInBounds_toArray, List.set_cons_zero, List.set_cons_succ]
      refine wpAnyH_take (i := 8) (oi := ⟨some 29, _, _, _, _, _⟩) (v := .agg (txC t A c A' c').toArray) rfl (by kernel_rfl) (by kernel_rfl) (by kernel_rfl) (fun _ _ _ h => h) (.inl ⟨by rfl, fun w' hS => exec_load _ _ rfl agTx rfl rfl hS.1⟩) hHeld ?_
      simp only [Act.put, List.setIfInBounds_toArray, List.set_cons_zero, List.set_cons_succ]
      refine wpAnyH_take (i := 10) (oi := ⟨some 31, _, _, _, _, _⟩) (v := .slice A6 (txB t).length c6) rfl (by kernel_rfl) (by kernel_rfl) (by kernel_rfl) (fun _ _ _ h => h) (.inl ⟨by rfl, fun w' hS => by go_simp⟩) hHeld ?_
      simp only [Act.put, List.setIfInBounds_toArray, List.set_cons_zero, List.set_cons_succ]
      refine wpAnyH_take (i := 11) (oi := ⟨some 32, _, _, _, _, _⟩) (v := .int .i64 (txB t).length) rfl (by kernel_rfl) (by kernel_rfl) (by kernel_rfl) (fun _ _ _ h => h) (.inl ⟨by rfl, fun w' hS => by go_simp⟩) hHeld ?_
      simp only [Act.put, List.setIfInBounds_toArray, List.set_cons_zero, List.set_cons_succ]
      refine hOne (i := 9) (o := ⟨some 30, _, _, _, _, _⟩) (by kernel_rfl) rfl (by rfl) ?_
      go_simp
      refine (txSize_calls _ t _ (RT.out _ q26) KT.out FT.out).mono ?_
      rintro e w30 ⟨rfl, b30⟩
      have r6c := (r6b.below b30).more b30.size
      have q30 := q26.trans (b30.mono q26.size)
      have hQ : (fun w' : World => w'.rangeAt g2 (0) (txC t A c A' c') ∧ w'.rangeAt g3 (0) (txC u B d B' d')) w30 := ⟨rng_bel b30 hHeld.1, rng_bel b30 hHeld.2⟩
      clear hHeld
      refine ⟨hQ, ?_⟩
      have hHeld := hQ
      clear hQ
      refine wpAnyH_take (i := 12) (oi := ⟨some 33, _, _, _, _, _⟩) (v := .bool true) rfl (by kernel_rfl) (by kernel_rfl) (by kernel_rfl) (fun _ _ _ h => h) (.inl ⟨by rfl, fun w' hS => by go_simp⟩) hHeld ?_
      simp only [Act.put, List.setIfInBounds_toArray, List.set_cons_zero, List.set_cons_succ]
      refine wpAnyH_take (i := 13) (oi := ⟨some 34, _, _, _, _, _⟩) (v := .bool true) rfl (by kernel_rfl) (by kernel_rfl) (by kernel_rfl) (fun _ _ _ h => h) (.inl ⟨by rfl, fun w' hS => by go_simp⟩) hHeld ?_
      simp only [Act.put, List.setIfInBounds_toArray, List.set_cons_zero, List.set_cons_succ]
      refine wpAnyH_take (i := 14) (oi := ⟨some 35, _, _, _, _, _⟩) (v := .bool true) rfl (by kernel_rfl) (by kernel_rfl) (by kernel_rfl) (fun _ _ _ h => h) (.inl ⟨by rfl, fun w' hS => by go_simp⟩) hHeld ?_
      simp only [Act.put, List.setIfInBounds_toArray, List.set_cons_zero, List.set_cons_succ]
      refine wpAnyH_take (i := 15) (oi := ⟨some 36, _, _, _, _, _⟩) (v := .agg (txC t A c A' c').toArray) rfl (by kernel_rfl) (by kernel_rfl) (by kernel_rfl) (fun _ _ _ h => h) (.inl ⟨by rfl, fun w' hS => exec_load _ _ rfl agTx rfl rfl hS.1⟩) hHeld ?_
      simp only [Act.put, List.setIfInBounds_toArray, List.set_cons_zero, List.set_cons_succ]
      refine wpAnyH_take (i := 17) (oi := ⟨some 38, _, _, _, _, _⟩) (v := .slice A6 (txB t).length c6) rfl (by kernel_rfl) (by kernel_rfl) (by kernel_rfl) (fun _ _ _ h => h) (.inl ⟨by rfl, fun w' hS => by go_simp⟩) hHeld ?_
      simp only [Act.put, List.setIfInBounds_toArray, List.set_cons_zero, List.set_cons_succ]
      refine hOne (i := 16) (o := ⟨some 37, _, _, _, _, _⟩) (by kernel_rfl) rfl (by rfl) ?_
      go_simp
      refine (txID_calls _ t _ (RT.out _ q30) KT.out FT.out).mono ?_
      rintro e w37 ⟨rfl, b37⟩
      have r6d := (r6c.below b37).more b37.size
      have q37 := q30.trans (b37.mono q30.size)
      have hQ : (fun w' : World => w'.rangeAt g2 (0) (txC t A c A' c') ∧ w'.rangeAt g3 (0) (txC u B d B' d')) w37 := ⟨rng_bel b37 hHeld.1, rng_bel b37 hHeld.2⟩
      clear hHeld
      refine ⟨hQ, ?_⟩
      have hHeld := hQ
      clear hQ
      refine hOne (i := 18) (o := ⟨some 39, _, _, _, _, _⟩) (by kernel_rfl) rfl (by rfl) ?_
      go_simp
      refine (refTwice_calls A6 _ c6 (txB t) _ r6d (by omega)).mono ?_
      rintro e w39 ⟨rfl, b39⟩
      have q39 := q37.trans (b39.mono q37.size)
      have hQ : (fun w' : World => w'.rangeAt g2 (0) (txC t A c A' c') ∧ w'.rangeAt g3 (0) (txC u B d B' d')) w39 := ⟨rng_bel b39 hHeld.1, rng_bel b39 hHeld.2⟩
      clear hHeld
      refine ⟨hQ, ?_⟩
      have hHeld := hQ
      clear hQ
      refine hOne (i := 19) (o := ⟨some 40, _, _, _, _, _⟩) (by kernel_rfl) rfl (by rfl) ?_
      go_simp
      have H40 := sameHash_calls (txID t) (twice (txB t)) w39 (twice_length _) (twice_length _)
      rw [decide_eq_true (show txID t = twice (txB t) from rfl)] at H40
      refine H40.mono ?_
      clear H40
      rintro e w40 ⟨rfl, b40⟩
      have q40 := q39.trans (b40.mono q39.size)
      have hQ : (fun w' : World => w'.rangeAt g2 (0) (txC t A c A' c') ∧ w'.rangeAt g3 (0) (txC u B d B' d')) w40 := ⟨rng_bel b40 hHeld.1, rng_bel b40 hHeld.2⟩
      clear hHeld
      refine ⟨hQ, ?_⟩
      have hHeld := hQ
      clear hQ
      refine wpAnyH_take (i := 20) (oi := ⟨some 41, _, _, _, _, _⟩) (v := .bool true) rfl (by kernel_rfl) (by kernel_rfl) (by kernel_rfl) (fun _ _ _ h => h) (.inl ⟨by rfl, fun w' hS => by go_simp⟩) hHeld ?_
      simp only [Act.put, List.setIfInBounds_toArray, List.set_cons_zero, List.set_cons_succ]
      refine wpAnyH_take (i := 21) (oi := ⟨some 42, _, _, _, _, _⟩) (v := .bool true) rfl (by kernel_rfl) (by kernel_rfl) (by kernel_rfl) (fun _ _ _ h => h) (.inl ⟨by rfl, fun w' hS => by go_simp⟩) hHeld ?_
      simp only [Act.put, List.setIfInBounds_toArray, List.set_cons_zero, List.set_cons_succ]
      refine wpAnyH_take (i := 22) (oi := ⟨some 43, _, _, _, _, _⟩) (v := .agg (txC t A c A' c').toArray) rfl (by kernel_rfl) (by kernel_rfl) (by kernel_rfl) (fun _ _ _ h => h) (.inl ⟨by rfl, fun w' hS => exec_load _ _ rfl agTx rfl rfl hS.1⟩) hHeld ?_
      simp only [Act.put, List.setIfInBounds_toArray, List.set_cons_zero, List.set_cons_succ]
      refine wpAnyH_take (i := 24) (oi := ⟨some 45, _, _, _, _, _⟩) (v := .agg (txC t A c A' c').toArray) rfl (by kernel_rfl) (by kernel_rfl) (by kernel_rfl) (fun _ _ _ h => h) (.inl ⟨by rfl, fun w' hS => exec_load _ _ rfl agTx rfl rfl hS.1⟩) hHeld ?_
      simp only [Act.put, List.setIfInBounds_toArray, List.set_cons_zero, List.set_cons_succ]
      refine hOne (i := 23) (o := ⟨some 44, _, _, _, _, _⟩) (by kernel_rfl) rfl (by rfl) ?_
      go_simp
      refine (txBase_calls t A A' c c' _ ((HT.out.1.below q40).more q40.size) KT.out FT.out).mono ?_
      rintro e w44 ⟨rfl, b44⟩
      have q44 := q40.trans (b44.mono q40.size)
      have hQ : (fun w' : World => w'.rangeAt g2 (0) (txC t A c A' c') ∧ w'.rangeAt g3 (0) (txC u B d B' d')) w44 := ⟨rng_bel b44 hHeld.1, rng_bel b44 hHeld.2⟩
      clear hHeld
      refine ⟨hQ, ?_⟩
      have hHeld := hQ
      clear hQ
      refine hOne (i := 25) (o := ⟨some 46, _, _, _, _, _⟩) (by kernel_rfl) rfl (by rfl) ?_
      go_simp
      refine (refBase_calls t A A' c c' _ ((HT.out.1.below q44).more q44.size) KT.out FT.out).mono ?_
      rintro e w46 ⟨rfl, b46⟩
      have q46 := q44.trans (b46.mono q44.size)
      have hQ : (fun w' : World => w'.rangeAt g2 (0) (txC t A c A' c') ∧ w'.rangeAt g3 (0) (txC u B d B' d')) w46 := ⟨rng_bel b46 hHeld.1, rng_bel b46 hHeld.2⟩
      clear hHeld
      refine ⟨hQ, ?_⟩
      have hHeld := hQ
      clear hQ
      refine wpAnyH_take (i := 26) (oi := ⟨some 47, _, _, _, _, _⟩) (v := .bool true) rfl (by kernel_rfl) (by kernel_rfl) (by kernel_rfl) (fun _ _ _ h => h) (.inl ⟨by rfl, fun w' hS => by go_simp⟩) hHeld ?_
      simp only [Act.put, List.setIfInBounds_toArray, List.set_cons_zero, List.set_cons_succ]
      refine wpAnyH_take (i := 27) (oi := ⟨some 48, _, _, _, _, _⟩) (v := .bool true) rfl (by kernel_rfl) (by kernel_rfl) (by kernel_rfl) (fun _ _ _ h => h) (.inl ⟨by rfl, fun w' hS => by go_simp⟩) hHeld ?_
      simp only [Act.put, List.setIfInBounds_toArray, List.set_cons_zero, List.set_cons_succ]
      refine wpAnyH_take (i := 28) (oi := ⟨some 49, _, _, _, _, _⟩) (v := .bool true) rfl (by kernel_rfl) (by kernel_rfl) (by kernel_rfl) (fun _ _ _ h => h) (.inl ⟨by rfl, fun w' hS => by go_simp⟩) hHeld ?_
      simp only [Act.put, List.setIfInBounds_toArray, List.set_cons_zero, List.set_cons_succ]
      refine wpAnyH_take (i := 29) (oi := ⟨some 50, _, _, _, _, _⟩) (v := .agg (txC t A c A' c').toArray) rfl (by kernel_rfl) (by kernel_rfl) (by kernel_rfl) (fun _ _ _ h => h) (.inl ⟨by rfl, fun w' hS => exec_load _ _ rfl agTx rfl rfl hS.1⟩) hHeld ?_
      simp only [Act.put, List.setIfInBounds_toArray, List.set_cons_zero, List.set_cons_succ]
      refine wpAnyH_take (i := 31) (oi := ⟨some 52, _, _, _, _, _⟩) (v := .agg (txC t A c A' c').toArray) rfl (by kernel_rfl) (by kernel_rfl) (by kernel_rfl) (fun _ _ _ h => h) (.inl ⟨by rfl, fun w' hS => exec_load _ _ rfl agTx rfl rfl hS.1⟩) hHeld ?_
      simp only [Act.put, List.setIfInBounds_toArray, List.set_cons_zero, List.set_cons_succ]
      refine hOne (i := 30) (o := ⟨some 51, _, _, _, _, _⟩) (by kernel_rfl) rfl (by rfl) ?_
      go_simp
      have E46 := HE.out.below q46
      refine (check_calls t A A' c c' _ _ _ _ _ _ _ ((HT.out.1.below q46).more q46.size) ((HT.out.2.below q46).more q46.size) KT.out FT.out (E46.at_ (i := 3) rfl) (E46.at_ (i := 2) rfl) (E46.at_ (i := 13) rfl) (E46.at_ (i := 4) rfl) (E46.at_ (i := 5) rfl) (E46.at_ (i := 6) rfl)).mono ?_
      clear E46
      rintro e w51 ⟨rfl, b51⟩
      have q51 := q46.trans (b51.mono q46.size)
      have hQ : (fun w' : World => w'.rangeAt g2 (0) (txC t A c A' c') ∧ w'.rangeAt g3 (0) (txC u B d B' d')) w51 := ⟨rng_bel b51 hHeld.1, rng_bel b51 hHeld.2⟩
      clear hHeld
      refine ⟨hQ, ?_⟩
      have hHeld := hQ
      clear hQ
      refine hOne (i := 32) (o := ⟨some 53, _, _, _, _, _⟩) (by kernel_rfl) rfl (by rfl) ?_
      go_simp
      refine (refCheck_calls t A A' c c' _ ((HT.out.1.below q51).more q51.size) ((HT.out.2.below q51).more q51.size) KT.out FT.out).mono ?_
      rintro e w53 ⟨rfl, b53⟩
      have q53 := q51.trans (b53.mono q51.size)
      have hQ : (fun w' : World => w'.rangeAt g2 (0) (txC t A c A' c') ∧ w'.rangeAt g3 (0) (txC u B d B' d')) w53 := ⟨rng_bel b53 hHeld.1, rng_bel b53 hHeld.2⟩
      clear hHeld
      refine ⟨hQ, ?_⟩
      have hHeld := hQ
      clear hQ
      refine hOne (i := 33) (o := ⟨some 54, _, _, _, _, _⟩) (by kernel_rfl) rfl (by rfl) ?_
      go_simp
      have H54 := is_err (c' := checkC t) w53 (HE.out.below q53) (checkE_of E t)
      rw [decide_eq_true rfl] at H54
      refine H54.mono ?_
      clear H54
      rintro e w54 ⟨rfl, b54⟩
      have q54 := q53.trans (b54.mono q53.size)
      have hQ : (fun w' : World => w'.rangeAt g2 (0) (txC t A c A' c') ∧ w'.rangeAt g3 (0) (txC u B d B' d')) w54 := ⟨rng_bel b54 hHeld.1, rng_bel b54 hHeld.2⟩
      clear hHeld
      refine ⟨hQ, ?_⟩
      have hHeld := hQ
      clear hQ
      refine wpAnyH_take (i := 34) (oi := ⟨some 55, _, _, _, _, _⟩) (v := .bool true) rfl (by kernel_rfl) (by kernel_rfl) (by kernel_rfl) (fun _ _ _ h => h) (.inl ⟨by rfl, fun w' hS => by go_simp⟩) hHeld ?_
      simp only [Act.put, List.setIfInBounds_toArray, List.set_cons_zero, List.set_cons_succ]
      refine wpAnyH_take (i := 35) (oi := ⟨some 56, _, _, _, _, _⟩) (v := .bool true) rfl (by kernel_rfl) (by kernel_rfl) (by kernel_rfl) (fun _ _ _ h => h) (.inl ⟨by rfl, fun w' hS => by go_simp⟩) hHeld ?_
      simp only [Act.put, List.setIfInBounds_toArray, List.set_cons_zero, List.set_cons_succ]
      refine wpAnyH_take (i := 36) (oi := ⟨some 57, _, _, _, _, _⟩) (v := .agg (txC t A c A' c').toArray) rfl (by kernel_rfl) (by kernel_rfl) (by kernel_rfl) (fun _ _ _ h => h) (.inl ⟨by rfl, fun w' hS => exec_load _ _ rfl agTx rfl rfl hS.1⟩) hHeld ?_
      simp only [Act.put, List.setIfInBounds_toArray, List.set_cons_zero, List.set_cons_succ]
      refine wpAnyH_take (i := 37) (oi := ⟨some 58, _, _, _, _, _⟩) (v := .agg (txC u B d B' d').toArray) rfl (by kernel_rfl) (by kernel_rfl) (by kernel_rfl) (fun _ _ _ h => h) (.inl ⟨by rfl, fun w' hS => exec_load _ _ rfl agTx rfl rfl hS.2⟩) hHeld ?_
      simp only [Act.put, List.setIfInBounds_toArray, List.set_cons_zero, List.set_cons_succ]
      refine wpAnyH_take (i := 39) (oi := ⟨some 60, _, _, _, _, _⟩) (v := .agg (txC t A c A' c').toArray) rfl (by kernel_rfl) (by kernel_rfl) (by kernel_rfl) (fun _ _ _ h => h) (.inl ⟨by rfl, fun w' hS => exec_load _ _ rfl agTx rfl rfl hS.1⟩) hHeld ?_
      simp only [Act.put, List.setIfInBounds_toArray, List.set_cons_zero, List.set_cons_succ]
      refine wpAnyH_take (i := 40) (oi := ⟨some 61, _, _, _, _, _⟩) (v := .agg (txC u B d B' d').toArray) rfl (by kernel_rfl) (by kernel_rfl) (by kernel_rfl) (fun _ _ _ h => h) (.inl ⟨by rfl, fun w' hS => exec_load _ _ rfl agTx rfl rfl hS.2⟩) hHeld ?_
      simp only [Act.put, List.setIfInBounds_toArray, List.set_cons_zero, List.set_cons_succ]
      refine hOne (i := 38) (o := ⟨some 59, _, _, _, _, _⟩) (by kernel_rfl) rfl (by rfl) ?_
      go_simp
      refine (txSame_calls t u A A' B B' c c' d d' _ ((HT.out.1.below q54).more q54.size) ((HT.out.2.below q54).more q54.size) ((HU.out.1.below q54).more q54.size) ((HU.out.2.below q54).more q54.size) KT.out KU.out FT.out FU.out).mono ?_
      rintro e w59 ⟨rfl, b59⟩
      have q59 := q54.trans (b59.mono q54.size)
      have hQ : (fun w' : World => w'.rangeAt g2 (0) (txC t A c A' c') ∧ w'.rangeAt g3 (0) (txC u B d B' d')) w59 := ⟨rng_bel b59 hHeld.1, rng_bel b59 hHeld.2⟩
      clear hHeld
      refine ⟨hQ, ?_⟩
      have hHeld := hQ
      clear hQ
      refine hOne (i := 41) (o := ⟨some 62, _, _, _, _, _⟩) (by kernel_rfl) rfl (by rfl) ?_
      go_simp
      refine (sameTx_calls t u A A' B B' c c' d d' _ ((HT.out.1.below q59).more q59.size) ((HT.out.2.below q59).more q59.size) ((HU.out.1.below q59).more q59.size) ((HU.out.2.below q59).more q59.size) KT.out KU.out FT.out FU.out).mono ?_
      rintro e w62 ⟨rfl, b62⟩
      have q62 := q59.trans (b62.mono q59.size)
      have hQ : (fun w' : World => w'.rangeAt g2 (0) (txC t A c A' c') ∧ w'.rangeAt g3 (0) (txC u B d B' d')) w62 := ⟨rng_bel b62 hHeld.1, rng_bel b62 hHeld.2⟩
      clear hHeld
      refine ⟨hQ, ?_⟩
      have hHeld := hQ
      clear hQ
      refine wpAnyH_take (i := 42) (oi := ⟨some 63, _, _, _, _, _⟩) (v := .bool true) rfl (by kernel_rfl) (by kernel_rfl) (by kernel_rfl) (fun _ _ _ h => h) (.inl ⟨by rfl, fun w' hS => by go_simp⟩) hHeld ?_
      simp only [Act.put, List.setIfInBounds_toArray, List.set_cons_zero, List.set_cons_succ]
      refine wpAnyH_take (i := 43) (oi := ⟨some 64, _, _, _, _, _⟩) (v := .bool true) rfl (by kernel_rfl) (by kernel_rfl) (by kernel_rfl) (fun _ _ _ h => h) (.inl ⟨by rfl, fun w' hS => by go_simp⟩) hHeld ?_
      simp only [Act.put, List.setIfInBounds_toArray, List.set_cons_zero, List.set_cons_succ]
      refine wpAnyH_take (i := 44) (oi := ⟨some 65, _, _, _, _, _⟩) (v := .bool true) rfl (by kernel_rfl) (by kernel_rfl) (by kernel_rfl) (fun _ _ _ h => h) (.inl ⟨by rfl, fun w' hS => by go_simp⟩) hHeld ?_
      simp only [Act.put, List.setIfInBounds_toArray, List.set_cons_zero, List.set_cons_succ]
      refine wpAnyH_take (i := 45) (oi := ⟨some 66, _, _, _, _, _⟩) (v := .agg (txC t A c A' c').toArray) rfl (by kernel_rfl) (by kernel_rfl) (by kernel_rfl) (fun _ _ _ h => h) (.inl ⟨by rfl, fun w' hS => exec_load _ _ rfl agTx rfl rfl hS.1⟩) hHeld ?_
      simp only [Act.put, List.setIfInBounds_toArray, List.set_cons_zero, List.set_cons_succ]
      refine wpAnyH_take (i := 47) (oi := ⟨some 68, _, _, _, _, _⟩) (v := .agg (txC t A c A' c').toArray) rfl (by kernel_rfl) (by kernel_rfl) (by kernel_rfl) (fun _ _ _ h => h) (.inl ⟨by rfl, fun w' hS => exec_load _ _ rfl agTx rfl rfl hS.1⟩) hHeld ?_
      simp only [Act.put, List.setIfInBounds_toArray, List.set_cons_zero, List.set_cons_succ]
      refine hOne (i := 46) (o := ⟨some 67, _, _, _, _, _⟩) (by kernel_rfl) rfl (by rfl) ?_
      go_simp
      refine (txClone_calls t A A' c c' _ ((HT.out.1.below q62).more q62.size) ((HT.out.2.below q62).more q62.size) KT.out FT.out).mono ?_
      rintro e w67 ⟨ds, rfl, rd, b67⟩
      obtain ⟨D, k, D', k', rfl, ri, ro⟩ := rd
      have q67 := q62.trans (b67.mono q62.size)
      have hQ : (fun w' : World => w'.rangeAt g2 (0) (txC t A c A' c') ∧ w'.rangeAt g3 (0) (txC u B d B' d')) w67 := ⟨rng_bel b67 hHeld.1, rng_bel b67 hHeld.2⟩
      clear hHeld
      refine ⟨hQ, ?_⟩
      have hHeld := hQ
      clear hQ
      refine hOne (i := 48) (o := ⟨some 69, _, _, _, _, _⟩) (by kernel_rfl) rfl (by rfl) ?_
      go_simp
      have H69 := sameTx_calls t t D D' A A' k k' c c' w67 ri ro ((HT.out.1.below q67).more q67.size) ((HT.out.2.below q67).more q67.size) KT.out KT.out FT.out FT.out
      rw [decide_eq_true rfl] at H69
      refine H69.mono ?_
      clear H69
      rintro e w69 ⟨rfl, b69⟩
      have q69 := q67.trans (b69.mono q67.size)
      have hQ : (fun w' : World => w'.rangeAt g2 (0) (txC t A c A' c') ∧ w'.rangeAt g3 (0) (txC u B d B' d')) w69 := ⟨rng_bel b69 hHeld.1, rng_bel b69 hHeld.2⟩
      clear hHeld
      refine ⟨hQ, ?_⟩
      have hHeld := hQ
      clear hQ
      refine wpAnyH_take (i := 49) (oi := ⟨some 70, _, _, _, _, _⟩) (v := .bool true) rfl (by kernel_rfl) (by kernel_rfl) (by kernel_rfl) (fun _ _ _ h => h) (.inl ⟨by rfl, fun w' hS => by go_simp⟩) hHeld ?_
      simp only [Act.put, List.setIfInBounds_toArray, List.set_cons_zero, List.set_cons_succ]
      refine wpAnyH_take (i := 50) (oi := ⟨some 4, _, _, _, _, _⟩) (v := .bool true) rfl (by kernel_rfl) (by kernel_rfl) (by kernel_rfl) (fun _ _ _ h => h) (.inl ⟨by rfl, fun w' hS => by go_simp⟩) hHeld ?_
      simp only [Act.put, List.setIfInBounds_toArray, List.set_cons_zero, List.set_cons_succ]
      refine wpAnyH_done (by kernel_rfl) ?_ _
      go_wp2_with fail
      go_ret
      exact ⟨rfl, q69⟩
    · rw [show lightP u = false by simpa using lu] at LU
      clear lu
      go_enter Tryd.func3, Tryd.ntmps3
      go_wp2_with (first
        | (have _t := tok2; refine wp_box (o := ⟨some 2, _, _, _, _, _⟩) rfl _ _ rfl rfl ?_; intro g2 wa h2 ba ga; clear _t tok2
           have h2q : Bk wa g2 26 (txC t A c A' c').toArray := h2)
        | (have _t := tok3; refine wp_box (o := ⟨some 3, _, _, _, _, _⟩) rfl _ _ rfl rfl ?_; intro g3 wb h3 bb gb; clear _t tok3
           have h2' : Bk wb g2 26 (txC t A c A' c').toArray := h2q.same bb
           have h3' : Bk wb g3 26 (txC u B d B' d').toArray := h3
           have bwb := ba.trans (bb.mono ba.size)))
      clear h2 h3 h2q
      refine (first4_calls wb).mono ?_
      rintro e wc ⟨rfl, bc⟩
      have bwc := bwb.trans (bc.mono bwb.size)
      have h2c := h2'.same bc
      have h3c := h3'.same bc
      go_wp2_with (have _t := tok10; refine wp_load (o := ⟨some 10, _, _, _, _, _⟩) (cs := txC t A c A' c') rfl _ _ rfl agTx rfl rfl (Bk.all h2c) ?_; clear _t tok10)
      refine (LT.out wc bwc).mono ?_
      rintro e wd ⟨rfl, bd⟩
      have bwd := bwc.trans (bd.mono bwc.size)
      have h3d := h3c.same bd
      go_wp2_with (have _t := tok14; refine wp_load_g (o := ⟨some 14, _, _, _, _, _⟩) (by rfl) _ _ rfl agTx rfl (cs := txC u B d B' d') rfl (Bk.all h3d) ?_; clear _t tok14)
      refine (LU.out wd bwd).mono ?_
      rintro e wf ⟨rfl, bf⟩
      go_wp2_with fail
      go_ret
      exact ⟨rfl, bwd.trans (bf.mono bwd.size)⟩
  · rw [show lightP t = false by simpa using lt] at LT
    clear lt
    go_enter Tryd.func3, Tryd.ntmps3
    go_wp2_with (first
      | (have _t := tok2; refine wp_box (o := ⟨some 2, _, _, _, _, _⟩) rfl _ _ rfl rfl ?_; intro g2 wa h2 ba ga; clear _t tok2
         have h2q : Bk wa g2 26 (txC t A c A' c').toArray := h2)
      | (have _t := tok3; refine wp_box (o := ⟨some 3, _, _, _, _, _⟩) rfl _ _ rfl rfl ?_; intro g3 wb h3 bb gb; clear _t tok3
         have h2' : Bk wb g2 26 (txC t A c A' c').toArray := h2q.same bb
         have bwb := ba.trans (bb.mono ba.size)))
    clear h2 h3 h2q
    refine (first4_calls wb).mono ?_
    rintro e wc ⟨rfl, bc⟩
    have bwc := bwb.trans (bc.mono bwb.size)
    have h2c := h2'.same bc
    go_wp2_with (have _t := tok10; refine wp_load (o := ⟨some 10, _, _, _, _, _⟩) (cs := txC t A c A' c') rfl _ _ rfl agTx rfl rfl (Bk.all h2c) ?_; clear _t tok10)
    refine (LT.out wc bwc).mono ?_
    rintro e wd ⟨rfl, bd⟩
    go_wp2_with fail
    go_ret
    exact ⟨rfl, bwc.trans (bd.mono bwc.size)⟩
end Go.Proofs.YtjfeehoflahblaaDoor
