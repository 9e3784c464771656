import Derived.Test.YtjfeehoflahblaaDoorState
import Derived.StillTailTactics
import Derived.IntWalk
import Derived.Deep.RegionWith
namespace Go.Proofs.YtjfeehoflahblaaDoor
open Go.RowKit

theorem wrt_set9 (s : List Int) (A : Option Addr) (r c : Nat) (n m : Int) (hs : s.length = 8) : (wrt s A r c n).toArray.setIfInBounds 9 (.int .i64 m) = (wrt s A r c m).toArray := by
  obtain ⟨x0, x1, x2, x3, x4, x5, x6, x7, rfl⟩ := list8 hs
  rfl
theorem wrt_set8 (s : List Int) (A A' : Option Addr) (r c r' c' : Nat) (n : Int) (hs : s.length = 8) : (wrt s A r c n).toArray.setIfInBounds 8 (.slice A' r' c') = (wrt s A' r' c' n).toArray := by
  obtain ⟨x0, x1, x2, x3, x4, x5, x6, x7, rfl⟩ := list8 hs
  rfl
theorem wrt_size (s : List Int) (A : Option Addr) (r c : Nat) (n : Int) (hs : s.length = 8) : (wrt s A r c n).toArray.size = 10 := by simp [wrt, wu, hs]
theorem wrt_8 {w : World} {g : Nat} {s : List Int} {A : Option Addr} {r c : Nat} {n : Int} (hs : s.length = 8) (h : Bk w g 212 (wrt s A r c n).toArray) : w.cell? ⟨g, 8, none⟩ = some (.slice A r c) ∧ w.cell? ⟨g, 9, none⟩ = some (.int .i64 n) := by
  obtain ⟨x0, x1, x2, x3, x4, x5, x6, x7, rfl⟩ := list8 hs
  exact ⟨(h.cell 8).trans rfl, (h.cell 9).trans rfl⟩

theorem grown_set {w0 w : World} {g : Nat} (h : w0.grownBy w (some g)) (i : Nat) (u : Value) : w0.grownBy (w.setCell ⟨g, i, none⟩ u) (some g) := by
  have hsz : (w.setCell ⟨g, i, none⟩ u).heap.size = w.heap.size := by simp [World.setCell]
  refine ⟨h.os, h.tape, h.output, by rw [hsz]; exact h.size, fun j hj hne => ?_⟩
  rw [Below.heap_setCell w ⟨g, i, none⟩ u j (by intro e; exact hne (by rw [e]))]
  exact h.block j hj hne
theorem wrt_final {w wx : World} {g base n0 c0 r c' : Nat} {z0 z1 z2 z3 z4 z5 z6 z7 x0 x1 x2 x3 x4 x5 x6 x7 m : Int} {A0 A' : Option Addr} {xs : List Value}
    (h : Bk wx g 212 (wrt [z0, z1, z2, z3, z4, z5, z6, z7] A0 n0 c0 m).toArray) (ho : Ow wx base 5 1 A' r c' xs) (hb : g < base) (hg : w.grownBy wx (some g)) :
    let wy := ((((((((wx.setCell ⟨g, 0, none⟩ (.int .u32 x0)).setCell ⟨g, 1, none⟩ (.int .u32 x1)).setCell ⟨g, 2, none⟩ (.int .u32 x2)).setCell ⟨g, 3, none⟩ (.int .u32 x3)).setCell ⟨g, 4, none⟩ (.int .u32 x4)).setCell ⟨g, 5, none⟩ (.int .u32 x5)).setCell ⟨g, 6, none⟩ (.int .u32 x6)).setCell ⟨g, 7, none⟩ (.int .u32 x7)).setCell ⟨g, 8, none⟩ (.slice A' r c')
    Bk wy g 212 (wrt [x0, x1, x2, x3, x4, x5, x6, x7] A' r c' m).toArray ∧ Rd wy wy.heap.size 1 A' r xs ∧ w.grownBy wy (some g) := by
  intro wy
  have hw : w.grownBy wy (some g) := (grown_set (grown_set (grown_set (grown_set (grown_set (grown_set (grown_set (grown_set (grown_set hg _ _) _ _) _ _) _ _) _ _) _ _) _ _) _ _) _ _)
  have hx : wx.grownBy wy (some g) := (grown_set (grown_set (grown_set (grown_set (grown_set (grown_set (grown_set (grown_set (grown_set (World.grownBy.refl _ _) _ _) _ _) _ _) _ _) _ _) _ _) _ _) _ _) _ _)
  refine ⟨?_, ?_, hw⟩
  · have e : (((((((((wrt [z0, z1, z2, z3, z4, z5, z6, z7] A0 n0 c0 m).toArray.setIfInBounds 0 (.int .u32 x0)).setIfInBounds 1 (.int .u32 x1)).setIfInBounds 2 (.int .u32 x2)).setIfInBounds 3 (.int .u32 x3)).setIfInBounds 4 (.int .u32 x4)).setIfInBounds 5 (.int .u32 x5)).setIfInBounds 6 (.int .u32 x6)).setIfInBounds 7 (.int .u32 x7)).setIfInBounds 8 (.slice A' r c') = (wrt [x0, x1, x2, x3, x4, x5, x6, x7] A' r c' m).toArray := by
      simp only [wrt, wu, List.map_cons, List.map_nil, List.cons_append, List.nil_append, List.setIfInBounds_toArray, List.set_cons_zero, List.set_cons_succ]
    rw [← e]
    exact ((((((((h.set 0 (.int .u32 x0)).set 1 (.int .u32 x1)).set 2 (.int .u32 x2)).set 3 (.int .u32 x3)).set 4 (.int .u32 x4)).set 5 (.int .u32 x5)).set 6 (.int .u32 x6)).set 7 (.int .u32 x7)).set 8 (.slice A' r c')
  · have hk : Ow wy base 5 1 A' r c' xs := ho.keep fun q hq hl => hx.block q hl (by
      intro e
      rcases ho.cases with ⟨rfl, _⟩ | ⟨g', _, rfl, h1, _⟩
      · cases hq
      · injection hq with hq; injection hq with hq; injection e with e; omega)
    exact hk.rd
theorem Rd.off_if {w : World} {B n : Nat} {ad : Addr} {xs : List Value} (h : Rd w B 1 (some ad) n xs) (k c : Nat) (hk : k ≤ n) (hc : n ≤ c) : Rd w B 1 (if c = k then some ad else some (ad.add k)) (n - k) (xs.drop k) := by
  refine ⟨by rw [List.length_drop, h.1]; omega, fun j u hu => ?_⟩
  rw [List.getElem?_drop] at hu
  obtain ⟨b, o, e, hb, hcell⟩ := h.2 _ u hu
  injection e with e
  subst e
  have hlt : k + j < xs.length := by
    rcases Nat.lt_or_ge (k + j) xs.length with h' | h'
    · exact h'
    · rw [List.getElem?_eq_none h'] at hu; cases hu
  have := h.1
  rw [if_neg (by omega)]
  refine ⟨b, o + k, ?_, hb, by rw [Nat.add_assoc]; exact hcell⟩
  unfold Addr.add
  by_cases hk0 : k = 0
  · subst hk0; simp
  · simp [hk0]
theorem Ow.grown_lt {w w' : World} {base e sz n c g : Nat} {A : Option Addr} {xs : List Value} (h : Ow w base e sz A n c xs) (hg : w.grownBy w' (some g)) (hb : g < base) : Ow w' base e sz A n c xs := by
  rcases h.cases with ⟨rfl, rfl, rfl, rfl⟩ | ⟨g', cur, rfl, h1, h2, hbk, _⟩
  · exact Ow.nil_ _ _ _ _
  · exact h.keep fun q hq hl => hg.block q hl (by intro e; injection hq with hq; injection hq with hq; injection e with e; omega)

set_option maxRecDepth 100000 in
set_option maxHeartbeats 4000000 in
theorem write_calls (g B : Nat) (z : List Int) (hz : z.length = 8) (A : Option Addr) (n c : Nat) (bs : List Int) (w : World) (hg : Bk w g 212 (wrt z none 0 0 0).toArray) (hr : Rd w B 1 A n (ub bs)) (hB : B ≤ g) (hn : n ≤ 1099511627776) :
    Calls Tryd.prog 158 #[.pointer (some ⟨g, 0, none⟩), .slice A n c] w fun e w' => e = .returned (.tuple #[]) ∧
      ∃ A' c', Bk w' g 212 (wrt (foldMix sha0 bs (n / 64)) A' (n % 64) c' n).toArray ∧ Rd w' w'.heap.size 1 A' (n % 64) (ub (bs.drop (64 * (n / 64)))) ∧ w.grownBy w' (some g) := by
  have HL := Lib.hid (rd_len hr)
  have HZ := Lib.hid hz
  clear hz
  have lg := hg.lt
  go_enter Tryd.func158, Tryd.ntmps158
  go_wp2_with (first
    | (go_at_call 171; refine (state_calls g z none 0 0 0 w HZ.out hg).mono ?_; rintro e wa ⟨rfl, ba⟩)
    | (refine wp_alloc (o := ⟨some 4, _, _, _, _, _⟩) rfl _ rfl (z := .agg (Array.replicate 8 (.int .u32 0))) (by kernel_rfl) ?_; intro g4 wb h4 bb gb
       refine wp_store_all (cs := wu sha0) rfl _ (.tmp 4) _ rfl ag8 rfl rfl h4 rfl rfl (oneCell_ints _ _) ?_; intro wc h4c gc
       have sa := ba.size
       have sb := bb.size
       have sc := gc.size
       have l4 := h4.lt
       have n4 : ¬ some g = some g4 := by intro h; injection h with h; omega
       have hgc := ((hg.same ba).same bb).grown gc n4
       have e9 := (wrt_8 HZ.out hgc).2
       have e8 := (wrt_8 HZ.out hgc).1)
    | (refine wp_store1 (v := .int .i64 (n : Int)) (o := ⟨none, .store _ (.tmp 16) _, _, _, _, _⟩) rfl _ _ _ rfl (by kernel_rfl) rfl rfl hgc ?_ rfl ?_
       · go_must (rw [wrt_size _ _ _ _ _ HZ.out]; omega)
       intro wd hd gd
       go_must (rw [wrt_set9 _ _ _ _ _ _ HZ.out] at hd)
       have n4' : ¬ some g4 = some g := by intro h; injection h with h; omega
       have h4d := h4c.grown gd n4'
       have e8d := (wrt_8 HZ.out hd).1
       have hrd := ((hr.grown (grown_of ba none) (by simp)).grown (grown_of bb none) (by simp)).grown gc (by intro g' h; injection h with h; omega) |>.grown gd (by intro g' h; injection h with h; omega))
    | (at_builtin; go_must (refine wp_app rfl _ _ _ rfl elB rfl (Ow.nil_ wd wd.heap.size 5 1) rfl hrd (ub_one _) (by unfold maxLen; omega) (by omega) (Nat.le_refl _) ?_)
       rw [Nat.zero_add, List.nil_append]
       intro A1 c1 we ho ge be)
    | (refine wp_store1 (v := .slice A1 n c1) (o := ⟨none, .store _ (.tmp 25) _, _, _, _, _⟩) rfl _ _ _ rfl (by kernel_rfl) rfl rfl (hd.same be) ?_ rfl ?_
       · rw [wrt_size _ _ _ _ _ HZ.out]; omega
       intro wf hf gf
       go_must (rw [wrt_set8 _ _ _ _ _ _ _ _ HZ.out] at hf)))
  have hof := ho.grown_lt gf (by have := hd.lt; omega)
  have h4f := (h4d.same be).grown gf n4'
  have HB0 : Hid (foldMix sha0 bs 0 = sha0) := rfl
  have hwf : w.grownBy wf (some g) := grown_trans (grown_trans (grown_trans (grown_new (grown_trans (grown_of ba _) (grown_of (bb) _)) gc (by omega)) gd) (grown_of be _)) gf
  have lgf : g < wf.heap.size := hf.lt
  have l4f : g4 < wf.heap.size := h4f.lt
  clear HL
  go_loopw [5] (fun i wr => ∃ (k j : Nat), k = 64 * j ∧ k ≤ n ∧ i = .int .i64 k ∧ Bk wr g4 210 (wu (foldMix sha0 bs j)).toArray ∧ wf.grownBy wr (some g4)) (fun i _ => n - (intOf i).toNat)
  case atStart => exact ⟨0, 0, rfl, by omega, rfl, h4f, World.grownBy.refl _ _⟩
  case round =>
    obtain ⟨k, j, hkj, hkn, rfl, h4r, gr⟩ := hrel
    have hgr := hf.grown gr n4
    have e8r := (wrt_8 HZ.out hgr).1
    have ho' := hof.grown_lt gr (by have := h4d.lt; omega)
    have gwr : w.grownBy wr (some g) := grown_new hwf gr (by omega)
    have hor := ho'.rd
    obtain ⟨x0, x1, x2, x3, x4, x5, x6, x7, hx⟩ := list8 (foldMix_length sha0 bs rfl j)
    have hmx : foldMix sha0 bs (j + 1) = mixP [x0, x1, x2, x3, x4, x5, x6, x7] ((bs.drop (64 * j)).take 64) := by rw [foldMix, hx]
    rw [hx] at h4r
    have HX := Lib.hid hx
    have HM := Lib.hid hmx
    have HK := Lib.hid hkj
    clear hx hmx hkj
    have d0 : wr.cell? ⟨g4, 0, none⟩ = some (.int .u32 x0) := (h4r.cell 0).trans rfl
    have d1 : wr.cell? ⟨g4, 1, none⟩ = some (.int .u32 x1) := (h4r.cell 1).trans rfl
    have d2 : wr.cell? ⟨g4, 2, none⟩ = some (.int .u32 x2) := (h4r.cell 2).trans rfl
    have d3 : wr.cell? ⟨g4, 3, none⟩ = some (.int .u32 x3) := (h4r.cell 3).trans rfl
    have d4 : wr.cell? ⟨g4, 4, none⟩ = some (.int .u32 x4) := (h4r.cell 4).trans rfl
    have d5 : wr.cell? ⟨g4, 5, none⟩ = some (.int .u32 x5) := (h4r.cell 5).trans rfl
    have d6 : wr.cell? ⟨g4, 6, none⟩ = some (.int .u32 x6) := (h4r.cell 6).trans rfl
    have d7 : wr.cell? ⟨g4, 7, none⟩ = some (.int .u32 x7) := (h4r.cell 7).trans rfl
    have hle := ho'.le
    have hml : maxLen = 9223372036854775807 := rfl
    by_cases hlt : k + 64 ≤ n
    · obtain ⟨b1, o1, rfl, hb1⟩ := hor.addr (by omega) (by omega)
      have hin : Rd wr wr.heap.size 1 (some ⟨b1, o1 + k, none⟩) 64 (ub ((bs.drop (64 * j)).take 64)) := by
        have := (hor.drop_ k).take_ (k := 64) (by omega)
        rw [Nat.mul_one, ub_drop, ub_take, HK.out] at this
        rw [HK.out]; exact this
      have q0 : IntKind.i64.wrap ((k : Int) + 64) = (k : Int) + 64 := IntWalk.i64_in _ (by omega)
      have q1 : (k : Int) + 64 ≤ (n : Int) := by omega
      have q2 : (k : Int) + 64 ≤ (c1 : Int) := by omega
      have q3 : (0 : Int) ≤ (k : Int) := by omega
      have q4 : (0 : Int) ≤ (k : Int) + 64 := by omega
      have q5 : ((k : Int) + 64).toNat = k + 64 := by omega
      have q6 : (k : Int) ≤ (k : Int) + 64 := by omega
      go_wp2_with fail
      go_still_tail 9, (by kernel_rfl)
      change wpList _ _ _ _ _ wr.drew
      go_wp2_with (first
        | (go_at_call 172; refine (mix_calls [x0, x1, x2, x3, x4, x5, x6, x7] b1 (o1 + k) (c1 - k) ((bs.drop (64 * j)).take 64) _ rfl hin.drew ?_).mono ?_; omega; rintro e wx ⟨rfl, bx⟩)
        | (refine wp_store_all (cs := wu (mixP [x0, x1, x2, x3, x4, x5, x6, x7] ((bs.drop (64 * j)).take 64))) rfl _ (.tmp 4) _ rfl ag8 rfl rfl (h4r.drew.same bx) (by rw [wu_length, mixP_length]) rfl (oneCell_ints _ _) ?_; intro wz hz gz))
      go_roundw
      case rel =>
        refine ⟨k + 64, j + 1, by have := HK.out; omega, by omega, by go_num, by rw [HM.out]; exact hz, ?_⟩
        exact grown_trans (grown_trans (grown_drew gr) (grown_of bx _)) gz
      case measure => simp [intOf]; omega
    · have hj : k = 64 * (n / 64) ∧ j = n / 64 ∧ n % 64 = n - k := by have := HK.out; omega
      have HX2 : Hid (foldMix sha0 bs (n / 64) = [x0, x1, x2, x3, x4, x5, x6, x7]) := by have := HX.out; rw [hj.2.1] at this; exact this
      have hk1 := hj.1
      have HJ := Lib.hid hj.2.2
      clear hj
      obtain ⟨z0, z1, z2, z3, z4, z5, z6, z7, rfl⟩ := list8 HZ.out
      have lgr := hgr.lt
      have l4r := h4r.lt
      have HK1 := Lib.hid hk1
      clear hk1 HX HM
      have q2 : (k : Int) ≤ (n : Int) := by omega
      have q3 : (0 : Int) ≤ (k : Int) := by omega
      have q4 : (n : Int) ≤ (c1 : Int) := by omega
      have hle1 := Lib.hid hle.1
      have sgr := gwr
      have fin : ∀ (wy : World) (A' : Option Addr) (c' : Nat), Bk wy g 212 (wrt [x0, x1, x2, x3, x4, x5, x6, x7] A' (n - k) c' n).toArray → Rd wy wy.heap.size 1 A' (n - k) (ub (bs.drop k)) → w.grownBy wy (some g) →
          ∃ A' c', Bk wy g 212 (wrt (foldMix sha0 bs (n / 64)) A' (n % 64) c' n).toArray ∧ Rd wy wy.heap.size 1 A' (n % 64) (ub (bs.drop (64 * (n / 64)))) ∧ w.grownBy wy (some g) := by
        intro wy A' c' f1 f2 f3
        rw [HX2.out, HJ.out, ← HK1.out]
        exact ⟨A', c', f1, f2, f3⟩
      have hcl := ub_drop bs k
      cases A1 with
      | none =>
        have hn0 : n = 0 := by
          rcases Nat.eq_zero_or_pos n with h | h
          · exact h
          · obtain ⟨b, o, e, _⟩ := hor.addr h (by omega); cases e
        have hin : Rd wr.drew wr.drew.heap.size 1 none (n - k) (ub (bs.drop k)) := by
          rw [← ub_drop, List.drop_of_length_le (by rw [hor.1]; omega)]
          rw [show n - k = 0 by omega]
          exact Rd.nil_ _ _ _ _
        have HN := Lib.hid hn0
        clear hn0
        go_wp2_with fail
        go_region_with (first
          | (go_at_call 95; with_reducible refine (clone_calls _ _ _ (bs.drop k) _ hin ?_).mono ?_; omega
             rintro e wx ⟨A', c', rfl, hox, bx⟩

             have hgx := hgr.drew.same bx
             have h4x := h4r.drew.same bx
             have s0 : wx.cell? ⟨g4, 0, none⟩ = some (.int .u32 x0) := (h4x.cell 0).trans rfl
             have s1 : wx.cell? ⟨g4, 1, none⟩ = some (.int .u32 x1) := (h4x.cell 1).trans rfl
             have s2 : wx.cell? ⟨g4, 2, none⟩ = some (.int .u32 x2) := (h4x.cell 2).trans rfl
             have s3 : wx.cell? ⟨g4, 3, none⟩ = some (.int .u32 x3) := (h4x.cell 3).trans rfl
             have s4 : wx.cell? ⟨g4, 4, none⟩ = some (.int .u32 x4) := (h4x.cell 4).trans rfl
             have s5 : wx.cell? ⟨g4, 5, none⟩ = some (.int .u32 x5) := (h4x.cell 5).trans rfl
             have s6 : wx.cell? ⟨g4, 6, none⟩ = some (.int .u32 x6) := (h4x.cell 6).trans rfl
             have s7 : wx.cell? ⟨g4, 7, none⟩ = some (.int .u32 x7) := (h4x.cell 7).trans rfl
             have b0 : wx.cell? ⟨g, 0, none⟩ = some (.int .u32 z0) := (hgx.cell 0).trans rfl
             have b1 : wx.cell? ⟨g, 1, none⟩ = some (.int .u32 z1) := (hgx.cell 1).trans rfl
             have b2 : wx.cell? ⟨g, 2, none⟩ = some (.int .u32 z2) := (hgx.cell 2).trans rfl
             have b3 : wx.cell? ⟨g, 3, none⟩ = some (.int .u32 z3) := (hgx.cell 3).trans rfl
             have b4 : wx.cell? ⟨g, 4, none⟩ = some (.int .u32 z4) := (hgx.cell 4).trans rfl
             have b5 : wx.cell? ⟨g, 5, none⟩ = some (.int .u32 z5) := (hgx.cell 5).trans rfl
             have b6 : wx.cell? ⟨g, 6, none⟩ = some (.int .u32 z6) := (hgx.cell 6).trans rfl
             have b7 : wx.cell? ⟨g, 7, none⟩ = some (.int .u32 z7) := (hgx.cell 7).trans rfl
             have b8 : wx.cell? ⟨g, 8, none⟩ = some (.slice none n c1) := (hgx.cell 8).trans rfl
             have f0 := hgx.frozen 0
             have f1 := hgx.frozen 1
             have f2 := hgx.frozen 2
             have f3 := hgx.frozen 3
             have f4 := hgx.frozen 4
             have f5 := hgx.frozen 5
             have f6 := hgx.frozen 6
             have f7 := hgx.frozen 7
             have f8 := hgx.frozen 8
             skip))
        all_goals
          obtain ⟨k1, k2, k3⟩ := wrt_final (w := w) (x0 := x0) (x1 := x1) (x2 := x2) (x3 := x3) (x4 := x4) (x5 := x5) (x6 := x6) (x7 := x7) hgx hox hgr.drew.lt (grown_trans (grown_drew gwr) (grown_of bx _))
          refine bodyPost_end (results_none rfl _ _ _) rfl ?_
          exact ⟨rfl, fin _ _ _ k1 k2 k3⟩
      | some ad =>
        have hin := (hor.off_if k c1 (by omega) (by omega)).drew
        rw [ub_drop] at hin
        by_cases hck : c1 = k
        · rw [if_pos hck] at hin
          go_wp2_with fail
          go_region_with (first
            | (go_at_call 95; with_reducible refine (clone_calls _ _ _ (bs.drop k) _ hin ?_).mono ?_; omega
               rintro e wx ⟨A', c', rfl, hox, bx⟩
  
               have hgx := hgr.drew.same bx
               have h4x := h4r.drew.same bx
               have s0 : wx.cell? ⟨g4, 0, none⟩ = some (.int .u32 x0) := (h4x.cell 0).trans rfl
               have s1 : wx.cell? ⟨g4, 1, none⟩ = some (.int .u32 x1) := (h4x.cell 1).trans rfl
               have s2 : wx.cell? ⟨g4, 2, none⟩ = some (.int .u32 x2) := (h4x.cell 2).trans rfl
               have s3 : wx.cell? ⟨g4, 3, none⟩ = some (.int .u32 x3) := (h4x.cell 3).trans rfl
               have s4 : wx.cell? ⟨g4, 4, none⟩ = some (.int .u32 x4) := (h4x.cell 4).trans rfl
               have s5 : wx.cell? ⟨g4, 5, none⟩ = some (.int .u32 x5) := (h4x.cell 5).trans rfl
               have s6 : wx.cell? ⟨g4, 6, none⟩ = some (.int .u32 x6) := (h4x.cell 6).trans rfl
               have s7 : wx.cell? ⟨g4, 7, none⟩ = some (.int .u32 x7) := (h4x.cell 7).trans rfl
               have b0 : wx.cell? ⟨g, 0, none⟩ = some (.int .u32 z0) := (hgx.cell 0).trans rfl
               have b1 : wx.cell? ⟨g, 1, none⟩ = some (.int .u32 z1) := (hgx.cell 1).trans rfl
               have b2 : wx.cell? ⟨g, 2, none⟩ = some (.int .u32 z2) := (hgx.cell 2).trans rfl
               have b3 : wx.cell? ⟨g, 3, none⟩ = some (.int .u32 z3) := (hgx.cell 3).trans rfl
               have b4 : wx.cell? ⟨g, 4, none⟩ = some (.int .u32 z4) := (hgx.cell 4).trans rfl
               have b5 : wx.cell? ⟨g, 5, none⟩ = some (.int .u32 z5) := (hgx.cell 5).trans rfl
               have b6 : wx.cell? ⟨g, 6, none⟩ = some (.int .u32 z6) := (hgx.cell 6).trans rfl
               have b7 : wx.cell? ⟨g, 7, none⟩ = some (.int .u32 z7) := (hgx.cell 7).trans rfl
               have b8 : wx.cell? ⟨g, 8, none⟩ = some (.slice (some ad) n c1) := (hgx.cell 8).trans rfl
               have f0 := hgx.frozen 0
               have f1 := hgx.frozen 1
               have f2 := hgx.frozen 2
               have f3 := hgx.frozen 3
               have f4 := hgx.frozen 4
               have f5 := hgx.frozen 5
               have f6 := hgx.frozen 6
               have f7 := hgx.frozen 7
               have f8 := hgx.frozen 8
               skip))
          all_goals
            obtain ⟨k1, k2, k3⟩ := wrt_final (w := w) (x0 := x0) (x1 := x1) (x2 := x2) (x3 := x3) (x4 := x4) (x5 := x5) (x6 := x6) (x7 := x7) hgx hox hgr.drew.lt (grown_trans (grown_drew gwr) (grown_of bx _))
            refine bodyPost_end (results_none rfl _ _ _) rfl ?_
            exact ⟨rfl, fin _ _ _ k1 k2 k3⟩
        · rw [if_neg hck] at hin
          go_wp2_with fail
          go_region_with (first
            | (go_at_call 95; with_reducible refine (clone_calls _ _ _ (bs.drop k) _ hin ?_).mono ?_; omega
               rintro e wx ⟨A', c', rfl, hox, bx⟩
  
               have hgx := hgr.drew.same bx
               have h4x := h4r.drew.same bx
               have s0 : wx.cell? ⟨g4, 0, none⟩ = some (.int .u32 x0) := (h4x.cell 0).trans rfl
               have s1 : wx.cell? ⟨g4, 1, none⟩ = some (.int .u32 x1) := (h4x.cell 1).trans rfl
               have s2 : wx.cell? ⟨g4, 2, none⟩ = some (.int .u32 x2) := (h4x.cell 2).trans rfl
               have s3 : wx.cell? ⟨g4, 3, none⟩ = some (.int .u32 x3) := (h4x.cell 3).trans rfl
               have s4 : wx.cell? ⟨g4, 4, none⟩ = some (.int .u32 x4) := (h4x.cell 4).trans rfl
               have s5 : wx.cell? ⟨g4, 5, none⟩ = some (.int .u32 x5) := (h4x.cell 5).trans rfl
               have s6 : wx.cell? ⟨g4, 6, none⟩ = some (.int .u32 x6) := (h4x.cell 6).trans rfl
               have s7 : wx.cell? ⟨g4, 7, none⟩ = some (.int .u32 x7) := (h4x.cell 7).trans rfl
               have b0 : wx.cell? ⟨g, 0, none⟩ = some (.int .u32 z0) := (hgx.cell 0).trans rfl
               have b1 : wx.cell? ⟨g, 1, none⟩ = some (.int .u32 z1) := (hgx.cell 1).trans rfl
               have b2 : wx.cell? ⟨g, 2, none⟩ = some (.int .u32 z2) := (hgx.cell 2).trans rfl
               have b3 : wx.cell? ⟨g, 3, none⟩ = some (.int .u32 z3) := (hgx.cell 3).trans rfl
               have b4 : wx.cell? ⟨g, 4, none⟩ = some (.int .u32 z4) := (hgx.cell 4).trans rfl
               have b5 : wx.cell? ⟨g, 5, none⟩ = some (.int .u32 z5) := (hgx.cell 5).trans rfl
               have b6 : wx.cell? ⟨g, 6, none⟩ = some (.int .u32 z6) := (hgx.cell 6).trans rfl
               have b7 : wx.cell? ⟨g, 7, none⟩ = some (.int .u32 z7) := (hgx.cell 7).trans rfl
               have b8 : wx.cell? ⟨g, 8, none⟩ = some (.slice (some ad) n c1) := (hgx.cell 8).trans rfl
               have f0 := hgx.frozen 0
               have f1 := hgx.frozen 1
               have f2 := hgx.frozen 2
               have f3 := hgx.frozen 3
               have f4 := hgx.frozen 4
               have f5 := hgx.frozen 5
               have f6 := hgx.frozen 6
               have f7 := hgx.frozen 7
               have f8 := hgx.frozen 8
               skip))
          all_goals
            obtain ⟨k1, k2, k3⟩ := wrt_final (w := w) (x0 := x0) (x1 := x1) (x2 := x2) (x3 := x3) (x4 := x4) (x5 := x5) (x6 := x6) (x7 := x7) hgx hox hgr.drew.lt (grown_trans (grown_drew gwr) (grown_of bx _))
            refine bodyPost_end (results_none rfl _ _ _) rfl ?_
            exact ⟨rfl, fin _ _ _ k1 k2 k3⟩
end Go.Proofs.YtjfeehoflahblaaDoor
