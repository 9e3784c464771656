/- A digest under way comes to its end, in the program: the call answers the words' bytes behind the last chunks. Conditions: at most 2^40 bytes. -/
import Derived.Test.YtjfeehoflahblaaDoorWrite
import Derived.Test.YtjfeehoflahblaaDoorPad
namespace Go.Proofs.YtjfeehoflahblaaDoor
open Go.RowKit

theorem Ow.grown_bk {w w' : World} {base e sz n c g t : Nat} {A : Option Addr} {xs : List Value} {cs : Array Value} (h : Ow w base e sz A n c xs) (hb : Bk w g t cs) (hg : w.grownBy w' (some g)) (hne : e ≠ t) : Ow w' base e sz A n c xs := by
  refine h.keep fun q hq hl => hg.block q hl ?_
  intro e'
  have := h.ne_bk hb hne
  rw [hq] at this
  exact this (by rw [← e']; rfl)

theorem out_step (S : List Int) (i k : Nat) (X : Int) (hi : i < 8) (hk : k < 4) (h : X = S.getD i 0 / 2 ^ (24 - 8 * k) % 256) :
    (ub (outF S (4 * i + k))).toArray.setIfInBounds (4 * i + k) (.int .u8 X) = (ub (outF S (4 * i + (k + 1)))).toArray := by
  have e := outF_set S (4 * i + k) (by omega)
  rw [show (4 * i + k) / 4 = i by omega, show (4 * i + k) % 4 = k by omega, ← h] at e
  rw [← Nat.add_assoc, ← e]
  simp [ub, List.map_set]
set_option maxRecDepth 100000 in
theorem run_index8 (S : List Int) (i : Nat) (w : World) (hi : i < 8) (hS : S.length = 8) : (Instr.index 210 (.agg (wu S).toArray) (.int .i64 i)).run Tryd.prog w = .ok (.int .u32 (S.getD i 0)) w := by
  obtain ⟨x0, x1, x2, x3, x4, x5, x6, x7, rfl⟩ := list8 hS
  have h : i = 0 ∨ i = 1 ∨ i = 2 ∨ i = 3 ∨ i = 4 ∨ i = 5 ∨ i = 6 ∨ i = 7 := by omega
  rcases h with rfl | rfl | rfl | rfl | rfl | rfl | rfl | rfl
  all_goals rfl
theorem ow_len {w : World} {base e n c : Nat} {A : Option Addr} {rest Z : List Int} {v X : Int} (j : Nat) (hj : j < 8) (h : X = (lenL v).getD j 0)
    (ho : Ow w base e 1 A n c (ub (rest ++ 128 :: (Z ++ lenB v j)) ++ [Value.int .u8 X])) : Ow w base e 1 A n c (ub (rest ++ 128 :: (Z ++ lenB v (j + 1)))) := by
  rw [lenB_step v X j hj h]
  have e : ub (rest ++ 128 :: (Z ++ (lenB v j ++ [X]))) = ub (rest ++ 128 :: (Z ++ lenB v j)) ++ [Value.int .u8 X] := by simp [ub]
  rw [e]; exact ho

theorem ag32 : Ag Tryd.prog 35 32 := ⟨_, Tryd.underlying35, rfl, by kernel_rfl⟩
set_option maxRecDepth 100000 in
set_option maxHeartbeats 4000000 in
theorem sum_calls (g : Nat) (s : List Int) (A : Option Addr) (r c n : Nat) (rest : List Int) (w : World) (hs : s.length = 8) (hg : Bk w g 212 (wrt s A r c n).toArray) (hr : Rd w w.heap.size 1 A r (ub rest)) (h64 : r < 64) (hn : n ≤ 1099511627776) (s1 : List Int) (hs1 : s1 = if (n : Int) < 64 then sha0 else s) :
    Calls Tryd.prog 159 #[.pointer (some ⟨g, 0, none⟩)] w fun e w' =>
      e = .returned (.agg (ub (outB (foldMix s1 (rest ++ padT r n) ((r + zer r + 9) / 64)))).toArray) ∧ Below w.heap.size w w' := by
  have HL := Lib.hid (rd_len hr)
  have HS1 : Hid (s1 = (if (n : Int) < 64 then sha0 else s) ∧ s1.length = 8) := ⟨hs1, by rw [hs1]; split; rfl; exact hs⟩
  have HS := Lib.hid hs
  clear hs hs1
  have lg := hg.lt
  have hzr : zer r ≤ 63 := by unfold zer; omega
  go_enter Tryd.func159, Tryd.ntmps159
  go_wp2_with (first
    | (refine wp_alloc (o := ⟨some 2, _, _, _, _, _⟩) rfl _ rfl (z := .agg (Array.replicate 32 (.int .u8 0))) (by kernel_rfl) ?_; intro g2 wa h2 ba ga
       have hga := hg.same ba
       have e8 := (wrt_8 HS.out hga).1
       have hra := (hr.below ba).more (B' := wa.heap.size) ba.size)
    | (go_at_call 95; refine (clone_calls A r c rest _ hra ?_).mono ?_; omega; rintro e wb ⟨A1, c1, rfl, ho1, bb⟩)
    | (at_builtin; refine wp_app rfl _ _ _ rfl elB rfl ((ho1.down ba.size).alloc _) rfl (Rd.new wb #[.int .u8 128] 5 1 1 rfl) (by simp [Value.oneCell']) (by unfold maxLen; omega) (by omega) (by have := ba.size; have := bb.size; simp; omega) ?_
       intro A2 c2 wc ho2 gc bc))
  have hbc : Below w.heap.size w wc := (ba.trans ((bb.mono ba.size).alloc (by have := ba.size; have := bb.size; omega) _)).trans bc
  have h2c : Bk wc g2 35 (Value.agg (Array.replicate 32 (.int .u8 0))).cells := ((h2.same bb).alloc _).app (ho1.alloc _) gc (by decide)
  go_loopw [3] (fun v wr => ∃ (m : Nat) (A' : Option Addr) (c' : Nat), r + 1 ≤ m ∧ m ≤ r + 1 + zer r ∧ v = .slice A' m c' ∧ Ow wr w.heap.size 5 1 A' m c' (ub (rest ++ 128 :: List.replicate (m - (r + 1)) 0)) ∧ Bk wr g2 35 (Value.agg (Array.replicate 32 (.int .u8 0))).cells ∧ Below w.heap.size w wr) (fun v _ => zer r + r + 1 - (match v with | .slice _ m _ => m | _ => 0))
  case atStart => exact ⟨r + 1, _, c2, by omega, by omega, rfl, by simpa [ub] using ho2, h2c, hbc⟩
  case round =>
    obtain ⟨m, A', c', hm1, hm2, rfl, ho, h2r, hbr⟩ := hrel
    have hz := zer_step (r := r) (j := m - (r + 1)) (by omega)
    rw [show r + 1 + (m - (r + 1)) = m by omega] at hz
    by_cases hlt : m = r + 1 + zer r
    · have hq : (m : Int) % 64 = 56 := by have := hz.2 (by omega); omega
      have HZ := Lib.hid (And.intro hz hlt)
      clear hz hlt
      go_wp2
      have ho' : Ow wr w.heap.size 5 1 A' m c' (ub (rest ++ 128 :: (List.replicate (zer r) 0 ++ lenB (8 * (n : Int)) 0))) := by
        have := ho
        rw [show m - (r + 1) = zer r by have := HZ.out.2; omega] at this
        simpa [lenB] using this
      clear ho
      go_loopw [3, 4] (fun v i wr => ∃ (j : Nat) (A' : Option Addr) (c' : Nat), j ≤ 8 ∧ i = .int .i64 (7 - (j : Int)) ∧ v = .slice A' (m + j) c' ∧ Ow wr w.heap.size 5 1 A' (m + j) c' (ub (rest ++ 128 :: (List.replicate (zer r) 0 ++ lenB (8 * (n : Int)) j))) ∧ Bk wr g2 35 (Value.agg (Array.replicate 32 (.int .u8 0))).cells ∧ Below w.heap.size w wr) (fun v i _ => (intOf i + 1).toNat)
      case atStart => exact ⟨0, A', c', by omega, rfl, rfl, ho', h2r, hbr⟩
      case round =>
        clear ho' h2r hbr
        obtain ⟨j, A', c', hj, rfl, rfl, ho, h2r, hbr⟩ := hrel
        have e9 := (wrt_8 HS.out (hg.same hbr)).2
        by_cases hlt : j < 8
        · have hcase : j = 0 ∨ j = 1 ∨ j = 2 ∨ j = 3 ∨ j = 4 ∨ j = 5 ∨ j = 6 ∨ j = 7 := by omega
          rcases hcase with rfl | rfl | rfl | rfl | rfl | rfl | rfl | rfl
          · go_wp2_with (at_builtin; go_must (refine wp_app rfl _ _ _ rfl elB rfl (ho.alloc _) rfl (Rd.new wr _ 5 1 1 rfl) (by simp [Value.oneCell']) (by unfold maxLen; omega) (by omega) (by have := hbr.size; simp; omega) ?_); intro A3 c3 w3 ho3 g3 b3)
            go_roundw
            case rel =>
              refine ⟨1, by omega, by omega, A3, c3, ⟨rfl, by omega, rfl⟩, ow_len 0 (by omega) ?_ ho3, (h2r.alloc _).app (ho.alloc _) g3 (by decide), (hbr.alloc hbr.size _).trans b3⟩
              simp only [lenL, List.getD_cons_zero, List.getD_cons_succ]
              omega
            case measure => simp [intOf] <;> omega
          · go_wp2_with (at_builtin; go_must (refine wp_app rfl _ _ _ rfl elB rfl (ho.alloc _) rfl (Rd.new wr _ 5 1 1 rfl) (by simp [Value.oneCell']) (by unfold maxLen; omega) (by omega) (by have := hbr.size; simp; omega) ?_); intro A3 c3 w3 ho3 g3 b3)
            go_roundw
            case rel =>
              refine ⟨2, by omega, by omega, A3, c3, ⟨rfl, by omega, rfl⟩, ow_len 1 (by omega) ?_ ho3, (h2r.alloc _).app (ho.alloc _) g3 (by decide), (hbr.alloc hbr.size _).trans b3⟩
              simp only [lenL, List.getD_cons_zero, List.getD_cons_succ]
              omega
            case measure => simp [intOf] <;> omega
          · go_wp2_with (at_builtin; go_must (refine wp_app rfl _ _ _ rfl elB rfl (ho.alloc _) rfl (Rd.new wr _ 5 1 1 rfl) (by simp [Value.oneCell']) (by unfold maxLen; omega) (by omega) (by have := hbr.size; simp; omega) ?_); intro A3 c3 w3 ho3 g3 b3)
            go_roundw
            case rel =>
              refine ⟨3, by omega, by omega, A3, c3, ⟨rfl, by omega, rfl⟩, ow_len 2 (by omega) ?_ ho3, (h2r.alloc _).app (ho.alloc _) g3 (by decide), (hbr.alloc hbr.size _).trans b3⟩
              simp only [lenL, List.getD_cons_zero, List.getD_cons_succ]
              omega
            case measure => simp [intOf] <;> omega
          · go_wp2_with (at_builtin; go_must (refine wp_app rfl _ _ _ rfl elB rfl (ho.alloc _) rfl (Rd.new wr _ 5 1 1 rfl) (by simp [Value.oneCell']) (by unfold maxLen; omega) (by omega) (by have := hbr.size; simp; omega) ?_); intro A3 c3 w3 ho3 g3 b3)
            go_roundw
            case rel =>
              refine ⟨4, by omega, by omega, A3, c3, ⟨rfl, by omega, rfl⟩, ow_len 3 (by omega) ?_ ho3, (h2r.alloc _).app (ho.alloc _) g3 (by decide), (hbr.alloc hbr.size _).trans b3⟩
              simp only [lenL, List.getD_cons_zero, List.getD_cons_succ]
              omega
            case measure => simp [intOf] <;> omega
          · go_wp2_with (at_builtin; go_must (refine wp_app rfl _ _ _ rfl elB rfl (ho.alloc _) rfl (Rd.new wr _ 5 1 1 rfl) (by simp [Value.oneCell']) (by unfold maxLen; omega) (by omega) (by have := hbr.size; simp; omega) ?_); intro A3 c3 w3 ho3 g3 b3)
            go_roundw
            case rel =>
              refine ⟨5, by omega, by omega, A3, c3, ⟨rfl, by omega, rfl⟩, ow_len 4 (by omega) ?_ ho3, (h2r.alloc _).app (ho.alloc _) g3 (by decide), (hbr.alloc hbr.size _).trans b3⟩
              simp only [lenL, List.getD_cons_zero, List.getD_cons_succ]
              omega
            case measure => simp [intOf] <;> omega
          · go_wp2_with (at_builtin; go_must (refine wp_app rfl _ _ _ rfl elB rfl (ho.alloc _) rfl (Rd.new wr _ 5 1 1 rfl) (by simp [Value.oneCell']) (by unfold maxLen; omega) (by omega) (by have := hbr.size; simp; omega) ?_); intro A3 c3 w3 ho3 g3 b3)
            go_roundw
            case rel =>
              refine ⟨6, by omega, by omega, A3, c3, ⟨rfl, by omega, rfl⟩, ow_len 5 (by omega) ?_ ho3, (h2r.alloc _).app (ho.alloc _) g3 (by decide), (hbr.alloc hbr.size _).trans b3⟩
              simp only [lenL, List.getD_cons_zero, List.getD_cons_succ]
              omega
            case measure => simp [intOf] <;> omega
          · go_wp2_with (at_builtin; go_must (refine wp_app rfl _ _ _ rfl elB rfl (ho.alloc _) rfl (Rd.new wr _ 5 1 1 rfl) (by simp [Value.oneCell']) (by unfold maxLen; omega) (by omega) (by have := hbr.size; simp; omega) ?_); intro A3 c3 w3 ho3 g3 b3)
            go_roundw
            case rel =>
              refine ⟨7, by omega, by omega, A3, c3, ⟨rfl, by omega, rfl⟩, ow_len 6 (by omega) ?_ ho3, (h2r.alloc _).app (ho.alloc _) g3 (by decide), (hbr.alloc hbr.size _).trans b3⟩
              simp only [lenL, List.getD_cons_zero, List.getD_cons_succ]
              omega
            case measure => simp [intOf] <;> omega
          · go_wp2_with (at_builtin; go_must (refine wp_app rfl _ _ _ rfl elB rfl (ho.alloc _) rfl (Rd.new wr _ 5 1 1 rfl) (by simp [Value.oneCell']) (by unfold maxLen; omega) (by omega) (by have := hbr.size; simp; omega) ?_); intro A3 c3 w3 ho3 g3 b3)
            go_roundw
            case rel =>
              refine ⟨8, by omega, by omega, A3, c3, ⟨rfl, by omega, rfl⟩, ow_len 7 (by omega) ?_ ho3, (h2r.alloc _).app (ho.alloc _) g3 (by decide), (hbr.alloc hbr.size _).trans b3⟩
              simp only [lenL, List.getD_cons_zero, List.getD_cons_succ]
              omega
            case measure => simp [intOf] <;> omega
        · obtain rfl : j = 8 := by omega
          obtain ⟨L, hL⟩ : ∃ L, L = m + 8 := ⟨_, rfl⟩
          obtain ⟨xs, hxs⟩ : ∃ xs, xs = rest ++ padT r n := ⟨_, rfl⟩
          have hoL : Ow wr w.heap.size 5 1 A' L c' (ub xs) := by rw [hL, hxs]; exact ho
          rw [← hL]
          have hL2 : L = r + zer r + 9 := by have := HZ.out.2; omega
          have hL64 : L % 64 = 0 := by rw [hL2]; exact pad_64 r
          have hLn : L ≤ 200 := by omega
          have hs1l := HS1.out.2
          have HL2 := Lib.hid (And.intro hL (And.intro hL2 hxs))
          have hgr := hg.same hbr
          have hst := state_calls g s A r c n wr HS.out hgr
          rw [← HS1.out.1] at hst
          clear hL hL2 hxs hs1l ho e9
          have lbr := hbr.size
          go_wp2_with (first
            | (go_at_call 171; refine hst.mono ?_; rintro e ws ⟨rfl, bs'⟩)
            | (refine wp_alloc (o := ⟨some 5, _, _, _, _, _⟩) rfl _ rfl (z := .agg (Array.replicate 8 (.int .u32 0))) (by kernel_rfl) ?_; intro g5 wt h5 bt gt
               have st := bs'.size
               refine wp_store_all (cs := wu s1) rfl _ (.tmp 5) _ rfl ag8 rfl rfl h5 (by rw [wu_length, HS1.out.2]) rfl (oneCell_ints _ _) ?_; intro wu5 h5u gu))
          have hbu : Below w.heap.size w wu5 := ((hbr.trans (bs'.mono lbr)).trans (bt.mono (by omega))).trans (grown_below gu (by omega) (by have := bt.size; omega))
          have n25 : ¬ some g2 = some g5 := by intro h; injection h with h; have := h2r.lt; omega
          have h2u := (((h2r.same bs').same bt).grown gu n25)
          have hou := ((hoL.same bs').same bt).grown_bk h5 gu (by decide)
          have l5 := h5.lt
          have s5 := bt.size
          clear hst hoL h2r bs' bt gu h5 hgr
          have h50 : Bk wu5 g5 210 (wu (foldMix s1 xs 0)).toArray := h5u
          clear h5u
          go_loopw [6] (fun i wr => ∃ (k j : Nat), k = 64 * j ∧ k ≤ L ∧ i = .int .i64 k ∧ Bk wr g5 210 (wu (foldMix s1 xs j)).toArray ∧ Bk wr g2 35 (Value.agg (Array.replicate 32 (.int .u8 0))).cells ∧ Ow wr w.heap.size 5 1 A' L c' (ub xs) ∧ Below w.heap.size w wr) (fun i _ => L - (intOf i).toNat)
          case atStart => exact ⟨0, 0, rfl, by omega, rfl, h50, h2u, hou, hbu⟩
          case round =>
            clear h50 h2u hou hbu hbr
            obtain ⟨k, j, hkj, hkn, rfl, h5r, h2r, hor, hbr⟩ := hrel
            have hrd := hor.rd
            have hle := hor.le
            have hml : maxLen = 9223372036854775807 := rfl
            by_cases hlt : k < L
            · have hk64 : k + 64 ≤ L := by omega
              obtain ⟨b1, o1, rfl, hb1⟩ := hrd.addr (by omega) (by omega)
              have hin : Rd wr wr.heap.size 1 (some ⟨b1, o1 + k, none⟩) 64 (ub ((xs.drop (64 * j)).take 64)) := by
                have := (hrd.drop_ k).take_ (k := 64) (by omega)
                rw [Nat.mul_one, ub_drop, ub_take, hkj] at this
                rw [hkj]; exact this
              have HKJ := Lib.hid hkj
              obtain ⟨x0, x1, x2, x3, x4, x5, x6, x7, hx⟩ := list8 (foldMix_length s1 xs HS1.out.2 j)
              have hmx : foldMix s1 xs (j + 1) = mixP [x0, x1, x2, x3, x4, x5, x6, x7] ((xs.drop (64 * j)).take 64) := by rw [foldMix, hx]
              rw [hx] at h5r
              have HX := Lib.hid (And.intro hx hmx)
              clear hx hmx hkj hle
              have hkc : k + 64 ≤ c' := by have := hor.le; omega
              have d0 : wr.cell? ⟨g5, 0, none⟩ = some (.int .u32 x0) := (h5r.cell 0).trans rfl
              have d1 : wr.cell? ⟨g5, 1, none⟩ = some (.int .u32 x1) := (h5r.cell 1).trans rfl
              have d2 : wr.cell? ⟨g5, 2, none⟩ = some (.int .u32 x2) := (h5r.cell 2).trans rfl
              have d3 : wr.cell? ⟨g5, 3, none⟩ = some (.int .u32 x3) := (h5r.cell 3).trans rfl
              have d4 : wr.cell? ⟨g5, 4, none⟩ = some (.int .u32 x4) := (h5r.cell 4).trans rfl
              have d5 : wr.cell? ⟨g5, 5, none⟩ = some (.int .u32 x5) := (h5r.cell 5).trans rfl
              have d6 : wr.cell? ⟨g5, 6, none⟩ = some (.int .u32 x6) := (h5r.cell 6).trans rfl
              have d7 : wr.cell? ⟨g5, 7, none⟩ = some (.int .u32 x7) := (h5r.cell 7).trans rfl
              have q0 : IntKind.i64.wrap ((k : Int) + 64) = (k : Int) + 64 := IntWalk.i64_in _ (by omega)
              have q1 : (k : Int) + 64 ≤ (L : Int) := by omega
              have q2 : (k : Int) + 64 ≤ (c' : Int) := by omega
              have q3 : (0 : Int) ≤ (k : Int) := by omega
              have q4 : (0 : Int) ≤ (k : Int) + 64 := by omega
              have q5 : ((k : Int) + 64).toNat = k + 64 := by omega
              have q6 : (k : Int) ≤ (k : Int) + 64 := by omega
              go_wp2_with fail
              go_still_tail 6, (by kernel_rfl)
              change wpList _ _ _ _ _ wr.drew
              go_wp2_with (first
                | (go_at_call 172; refine (mix_calls [x0, x1, x2, x3, x4, x5, x6, x7] b1 (o1 + k) (c' - k) ((xs.drop (64 * j)).take 64) _ rfl hin.drew ?_).mono ?_; omega; rintro e wx ⟨rfl, bx⟩)
                | (refine wp_store_all (cs := wu (mixP [x0, x1, x2, x3, x4, x5, x6, x7] ((xs.drop (64 * j)).take 64))) rfl _ (.tmp 5) _ rfl ag8 rfl rfl (h5r.drew.same bx) (by rw [wu_length, mixP_length]) rfl (oneCell_ints _ _) ?_; intro wz hz gz))
              go_roundw
              case rel =>
                have lr := hbr.size
                refine ⟨k + 64, j + 1, by have := HKJ.out; omega, by omega, by go_num, by rw [HX.out.2]; exact hz, ((h2r.drew.same bx).grown gz n25), (hor.drew.same bx).grown_bk (h5r.drew.same bx) gz (by decide), ?_⟩
                exact (hbr.drew.trans (bx.mono lr)).trans (grown_below gz (by omega) (by have := bx.size; exact Nat.le_trans lr this))
              case measure => simp [intOf]; omega
            · obtain ⟨hkL, hjL⟩ : k = L ∧ j = L / 64 := by omega
              rw [hjL] at h5r
              obtain ⟨S, hS⟩ : ∃ S, S = foldMix s1 xs (L / 64) := ⟨_, rfl⟩
              rw [← hS] at h5r
              have hSl : S.length = 8 := by rw [hS]; exact foldMix_length _ _ HS1.out.2 _
              have HSS := Lib.hid (And.intro hS hSl)
              have HKL := Lib.hid (And.intro hkL hjL)
              clear hS hSl hkL hjL hkj
              go_wp2_with (first
                | (refine wp_alloc (o := ⟨some 7, _, _, _, _, _⟩) rfl _ rfl (z := .agg (Array.replicate 32 (.int .u8 0))) (by kernel_rfl) ?_; intro g7 wa7 h7 b7 l7)
                | (refine wp_load (o := ⟨some 57, _, _, _, _, _⟩) (cs := wu S) rfl _ _ rfl ag8 rfl (by rw [wu_length, HSS.out.2]) (fun j u hu => by rw [Nat.zero_add, (h5r.same b7).cell]; simpa using hu) ?_))
              have b7' := hbr.trans (b7.mono hbr.size)
              have h2' := h2r.same b7
              have lw7 := hbr.size
              have n27 : ¬ some g2 = some g7 := by intro h; injection h with h; have := h2r.lt; omega
              go_loopw [58, 8, 9, 10, 62] (fun i _ _ _ _ wr => ∃ (k : Nat), k ≤ 8 ∧ i = .int .i64 k ∧ Bk wr g7 35 (ub (outF S (4 * k))).toArray ∧ Bk wr g2 35 (Value.agg (Array.replicate 32 (.int .u8 0))).cells ∧ Below w.heap.size w wr) (fun i _ _ _ _ _ => 8 - (intOf i).toNat)
              case atStart => exact ⟨0, by omega, rfl, by rw [outF_zero]; exact h7, h2', b7'⟩
              case round =>
                clear h2' h7 b7' h5r h2r hor hrd hle b7
                obtain ⟨i, hi, rfl, h7r, h2r, hbr⟩ := hrel
                by_cases hlt : i < 8
                · have hx := run_index8 S i wr hlt HSS.out.2
                  have hi8 : (i : Int) < 8 := by omega
                  obtain ⟨x, hxx⟩ : ∃ x, x = S.getD i 0 := ⟨_, rfl⟩
                  rw [← hxx] at hx
                  have HXX := Lib.hid hxx
                  clear hxx
                  go_wp2
                  go_loopw [62, 10] (fun t _ wr => ∃ (k : Nat), k ≤ 4 ∧ t = .int .i64 k ∧ Bk wr g7 35 (ub (outF S (4 * i + k))).toArray ∧ Bk wr g2 35 (Value.agg (Array.replicate 32 (.int .u8 0))).cells ∧ Below w.heap.size w wr) (fun t _ _ => 4 - (intOf t).toNat)
                  case atStart => exact ⟨0, by omega, rfl, h7r, h2r, hbr⟩
                  case round =>
                    clear hx h7r h2r hbr
                    obtain ⟨k, hk, rfl, h7r, h2r, hbr⟩ := hrel
                    have lbr := hbr.size
                    by_cases hlk : k < 4
                    · have hcase : k = 0 ∨ k = 1 ∨ k = 2 ∨ k = 3 := by omega
                      rcases hcase with rfl | rfl | rfl | rfl
                      · go_wp2_with (refine wp_store1 (v := .int .u8 _) (o := ⟨none, .store _ (.tmp 75) _, _, _, _, _⟩) rfl _ _ _ rfl (by kernel_rfl) rfl rfl h7r ?_ rfl ?_; simp [ub_length, outF_length]; omega; intro wz hz gz)
                        go_roundw
                        case rel =>
                          have e := out_step S i 0 (x / 16777216 % 256) hlt (by omega) (by rw [← HXX.out]; omega)
                          have e' : Bk wz g7 35 (ub (outF S (4 * i + 1))).toArray := by rw [show 4 * i + 1 = 4 * i + (0 + 1) from rfl, ← e]; exact hz
                          exact ⟨1, by omega, rfl, e', h2r.grown gz n27, hbr.trans (grown_below gz (by omega) lbr)⟩
                        case measure => simp [intOf] <;> omega
                      · go_wp2_with (refine wp_store1 (v := .int .u8 _) (o := ⟨none, .store _ (.tmp 75) _, _, _, _, _⟩) rfl _ _ _ rfl (by kernel_rfl) rfl rfl h7r ?_ rfl ?_; simp [ub_length, outF_length]; omega; intro wz hz gz)
                        go_roundw
                        case rel =>
                          have e := out_step S i 1 (x / 65536 % 256) hlt (by omega) (by rw [← HXX.out]; omega)
                          have e' : Bk wz g7 35 (ub (outF S (4 * i + 2))).toArray := by rw [show 4 * i + 2 = 4 * i + (1 + 1) from rfl, ← e]; exact hz
                          exact ⟨2, by omega, rfl, e', h2r.grown gz n27, hbr.trans (grown_below gz (by omega) lbr)⟩
                        case measure => simp [intOf] <;> omega
                      · go_wp2_with (refine wp_store1 (v := .int .u8 _) (o := ⟨none, .store _ (.tmp 75) _, _, _, _, _⟩) rfl _ _ _ rfl (by kernel_rfl) rfl rfl h7r ?_ rfl ?_; simp [ub_length, outF_length]; omega; intro wz hz gz)
                        go_roundw
                        case rel =>
                          have e := out_step S i 2 (x / 256 % 256) hlt (by omega) (by rw [← HXX.out]; omega)
                          have e' : Bk wz g7 35 (ub (outF S (4 * i + 3))).toArray := by rw [show 4 * i + 3 = 4 * i + (2 + 1) from rfl, ← e]; exact hz
                          exact ⟨3, by omega, rfl, e', h2r.grown gz n27, hbr.trans (grown_below gz (by omega) lbr)⟩
                        case measure => simp [intOf] <;> omega
                      · go_wp2_with (refine wp_store1 (v := .int .u8 _) (o := ⟨none, .store _ (.tmp 75) _, _, _, _, _⟩) rfl _ _ _ rfl (by kernel_rfl) rfl rfl h7r ?_ rfl ?_; simp [ub_length, outF_length]; omega; intro wz hz gz)
                        go_roundw
                        case rel =>
                          have e := out_step S i 3 (x % 256) hlt (by omega) (by rw [← HXX.out]; omega)
                          have e' : Bk wz g7 35 (ub (outF S (4 * i + 4))).toArray := by rw [show 4 * i + 4 = 4 * i + (3 + 1) from rfl, ← e]; exact hz
                          exact ⟨4, by omega, rfl, e', h2r.grown gz n27, hbr.trans (grown_below gz (by omega) lbr)⟩
                        case measure => simp [intOf] <;> omega
                    · obtain rfl : k = 4 := by omega
                      go_wp2
                      go_roundw
                      case rel =>
                        refine ⟨i + 1, by omega, by go_num, ?_, h2r, hbr⟩
                        rw [Nat.mul_add]; exact h7r
                      case measure => simp [intOf]; omega
                · go_wp2_with (first
                    | (refine wp_load (o := ⟨some 78, _, _, _, _, _⟩) (cs := ub (outB S)) rfl _ _ rfl ag32 rfl (by simp [ub_length, outB_length]) ?_ ?_
                       · intro j u hu
                         rw [Nat.zero_add, h7r.cell, show 4 * i = 32 by omega, outF_full]
                         simpa using hu)
                    | (refine wp_store_all (cs := ub (outB S)) rfl _ _ _ rfl ag32 rfl rfl h2r (by simp [ub_length, outB_length]) rfl (ub_one _) ?_; intro wy h8 h9))
                  refine ret_row rfl rfl ag32 rfl h8 (by simp [ub_length, outB_length]) ⟨?_, hbr.trans (grown_below h9 (by omega) hbr.size)⟩
                  rw [HSS.out.1, HL2.out.2.2, HL2.out.2.1]
    · have hq : ¬ m % 64 = 56 := fun h => hlt (by have := hz.1 h; omega)
      have hq2 : ¬ (m : Int) % 64 = 56 := by omega
      have HZ := Lib.hid hz
      clear hz
      go_wp2_with (at_builtin; go_must (refine wp_app rfl _ _ _ rfl elB rfl (ho.alloc _) rfl (Rd.new wr #[.int .u8 0] 5 1 1 rfl) (by simp [Value.oneCell']) (by unfold maxLen; omega) (by omega) (by have := hbr.size; simp; omega) ?_); intro A3 c3 w3 ho3 g3 b3)
      go_roundw
      case rel =>
        refine ⟨m + 1, A3, c3, by omega, by omega, rfl, ?_, (h2r.alloc _).app (ho.alloc _) g3 (by decide), (hbr.alloc hbr.size _).trans b3⟩
        rw [show m + 1 - (r + 1) = m - (r + 1) + 1 by omega, List.replicate_succ']
        simpa [ub] using ho3
      case measure => simp; omega
end Go.Proofs.YtjfeehoflahblaaDoor
