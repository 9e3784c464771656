/- The digest of a row of bytes, in the reference: the call answers 'sha'. Conditions: at most 2^40 bytes. -/
import Derived.Test.YtjfeehoflahblaaDoorShaB
namespace Go.Proofs.YtjfeehoflahblaaDoor
open Go.RowKit

def ChunkR (L c' : Nat) (A' : Option Addr) (xs : List Int) (w : World) (g2 gh gk : Nat) (i : Value) (wr : World) : Prop :=
  ∃ (k j : Nat), k = 64 * j ∧ k ≤ L ∧ i = .int .i64 k ∧ Stay (foldMix sha0 xs j) L c' A' xs w g2 gh gk wr
set_option maxRecDepth 100000 in
set_option maxHeartbeats 40000000 in
theorem refSha_calls (A : Option Addr) (n c : Nat) (bs : List Int) (w : World) (hr : Rd w w.heap.size 1 A n (ub bs)) (hn : n ≤ 1099511627700) :
    Calls Tryd.prog 75 #[.slice A n c] w fun e w' => e = .returned (.agg (ub (sha bs)).toArray) ∧ Below w.heap.size w w' := by
  have HL := Lib.hid (rd_len hr)
  have hzr : zer n ≤ 63 := by unfold zer; omega
  go_enter Tryd.func75, Tryd.ntmps75
  go_wp2_with (first
    | (refine wp_alloc (o := ⟨some 2, _, _, _, _, _⟩) rfl _ rfl (z := .agg (Array.replicate 32 (.int .u8 0))) (by kernel_rfl) ?_; intro g2 wa h2 ba ga)
    | (refine wp_slice_lit (o := ⟨some 23, _, _, _, _, _⟩) rfl _ _ _ rfl 22 (wu sha0).toArray (by kernel_rfl) ?_; intro gh wb hh bb gb
       have sa := ba.size
       have nh2 : ¬ g2 = gh := by have := h2.lt; omega
       have h2b := h2.same bb
       have bwb := ba.trans (bb.mono sa)
       have hrb := (hr.below bwb).more (B' := wb.heap.size) bwb.size)
    | (go_at_call 55; refine (refBytes_calls A n c bs wb hrb ?_).mono ?_; omega; rintro e wc ⟨A1, c1, rfl, ho1, bc⟩
       have h2c := h2b.same bc
       have hhc := hh.same bc
       have bwc := bwb.trans (bc.mono bwb.size)
       have ho1' := ho1.down bwb.size)
    | (at_builtin; refine wp_app_at rfl _ _ _ rfl elB rfl (ho1'.alloc _) rfl (Rd.new wc #[.int .u8 128] 5 1 1 rfl) (by simp [Value.oneCell']) (by unfold maxLen; omega) (by omega) (by have := bwc.size; simp; omega) ?_
       intro A2 c2 wd ho2 fd))
  have bwd := (bwc.alloc bwc.size _).trans (fd.below (ho1'.alloc _) (by have := bwc.size; simp; omega))
  have h2d : Bk wd g2 35 zH := (h2c.alloc _).flow fd (ho1'.alloc _) (by decide)
  have hhd := (hhc.alloc _).flow fd (ho1'.alloc _) (by decide)
  clear h2 ba bb h2b hh hrb bwb h2c hhc bc bwc ho1
  go_loopw [4] (PadR bs n w g2 gh) (fun v _ => zer n + n + 1 - (match v with | .slice _ m _ => m | _ => 0))
  case atStart => exact ⟨n + 1, _, c2, by omega, by omega, rfl, by simpa [ub] using ho2, h2d, hhd, bwd⟩
  case round =>
    clear h2d hhd bwd ho2 fd ho1'
    obtain ⟨m, A', c', hm1, hm2, rfl, ho, h2r, hhr, hbr⟩ := hrel
    have hz := zer_step (r := n) (j := m - (n + 1)) (by omega)
    rw [show n + 1 + (m - (n + 1)) = m by omega] at hz
    by_cases hlt : m = n + 1 + zer n
    · have hq : (m : Int) % 64 = 56 := by have := hz.2 (by omega); omega
      have HZ := Lib.hid (And.intro hz hlt)
      clear hz hlt
      go_wp2
      have ho' : Ow wr w.heap.size 5 1 A' m c' (ub (bs ++ 128 :: (List.replicate (zer n) 0 ++ lenB (8 * (n : Int)) 0))) := by
        have := ho
        rw [show m - (n + 1) = zer n by have := HZ.out.2; omega] at this
        simpa [lenB] using this
      clear ho
      go_loopw [4, 6] (LenR bs n m w g2 gh) (fun v i _ => (intOf i + 1).toNat)
      case atStart => exact ⟨0, A', c', by omega, rfl, rfl, ho', h2r, hhr, hbr⟩
      case round =>
        clear ho' h2r hhr hbr
        obtain ⟨j, A', c', hj, rfl, rfl, ho, h2r, hhr, hbr⟩ := hrel
        have sbr := hbr.size
        by_cases hlt : j < 8
        · have hcase : j = 0 ∨ j = 1 ∨ j = 2 ∨ j = 3 ∨ j = 4 ∨ j = 5 ∨ j = 6 ∨ j = 7 := by omega
          rcases hcase with rfl | rfl | rfl | rfl | rfl | rfl | rfl | rfl
          · go_wp2_with (at_builtin; go_must (refine wp_app_at rfl _ _ _ rfl elB rfl (ho.alloc _) rfl (Rd.new wr _ 5 1 1 rfl) (by simp [Value.oneCell']) (by unfold maxLen; omega) (by omega) (by simp; omega) ?_); intro A3 c3 w3 ho3 f3)
            go_roundw
            case rel =>
              refine ⟨1, A3, c3, by omega, rfl, rfl, ow_len 0 (by omega) ?_ ho3, (h2r.alloc _).flow f3 (ho.alloc _) (by decide), (hhr.alloc _).flow f3 (ho.alloc _) (by decide), (hbr.alloc sbr _).trans (f3.below (ho.alloc _) (by simp; omega))⟩
              simp only [lenL, List.getD_cons_zero, List.getD_cons_succ] <;> omega
            case measure => simp [intOf] <;> omega
          · go_wp2_with (at_builtin; go_must (refine wp_app_at rfl _ _ _ rfl elB rfl (ho.alloc _) rfl (Rd.new wr _ 5 1 1 rfl) (by simp [Value.oneCell']) (by unfold maxLen; omega) (by omega) (by simp; omega) ?_); intro A3 c3 w3 ho3 f3)
            go_roundw
            case rel =>
              refine ⟨2, A3, c3, by omega, rfl, rfl, ow_len 1 (by omega) ?_ ho3, (h2r.alloc _).flow f3 (ho.alloc _) (by decide), (hhr.alloc _).flow f3 (ho.alloc _) (by decide), (hbr.alloc sbr _).trans (f3.below (ho.alloc _) (by simp; omega))⟩
              simp only [lenL, List.getD_cons_zero, List.getD_cons_succ] <;> omega
            case measure => simp [intOf] <;> omega
          · go_wp2_with (at_builtin; go_must (refine wp_app_at rfl _ _ _ rfl elB rfl (ho.alloc _) rfl (Rd.new wr _ 5 1 1 rfl) (by simp [Value.oneCell']) (by unfold maxLen; omega) (by omega) (by simp; omega) ?_); intro A3 c3 w3 ho3 f3)
            go_roundw
            case rel =>
              refine ⟨3, A3, c3, by omega, rfl, rfl, ow_len 2 (by omega) ?_ ho3, (h2r.alloc _).flow f3 (ho.alloc _) (by decide), (hhr.alloc _).flow f3 (ho.alloc _) (by decide), (hbr.alloc sbr _).trans (f3.below (ho.alloc _) (by simp; omega))⟩
              simp only [lenL, List.getD_cons_zero, List.getD_cons_succ] <;> omega
            case measure => simp [intOf] <;> omega
          · go_wp2_with (at_builtin; go_must (refine wp_app_at rfl _ _ _ rfl elB rfl (ho.alloc _) rfl (Rd.new wr _ 5 1 1 rfl) (by simp [Value.oneCell']) (by unfold maxLen; omega) (by omega) (by simp; omega) ?_); intro A3 c3 w3 ho3 f3)
            go_roundw
            case rel =>
              refine ⟨4, A3, c3, by omega, rfl, rfl, ow_len 3 (by omega) ?_ ho3, (h2r.alloc _).flow f3 (ho.alloc _) (by decide), (hhr.alloc _).flow f3 (ho.alloc _) (by decide), (hbr.alloc sbr _).trans (f3.below (ho.alloc _) (by simp; omega))⟩
              simp only [lenL, List.getD_cons_zero, List.getD_cons_succ] <;> omega
            case measure => simp [intOf] <;> omega
          · go_wp2_with (at_builtin; go_must (refine wp_app_at rfl _ _ _ rfl elB rfl (ho.alloc _) rfl (Rd.new wr _ 5 1 1 rfl) (by simp [Value.oneCell']) (by unfold maxLen; omega) (by omega) (by simp; omega) ?_); intro A3 c3 w3 ho3 f3)
            go_roundw
            case rel =>
              refine ⟨5, A3, c3, by omega, rfl, rfl, ow_len 4 (by omega) ?_ ho3, (h2r.alloc _).flow f3 (ho.alloc _) (by decide), (hhr.alloc _).flow f3 (ho.alloc _) (by decide), (hbr.alloc sbr _).trans (f3.below (ho.alloc _) (by simp; omega))⟩
              simp only [lenL, List.getD_cons_zero, List.getD_cons_succ] <;> omega
            case measure => simp [intOf] <;> omega
          · go_wp2_with (at_builtin; go_must (refine wp_app_at rfl _ _ _ rfl elB rfl (ho.alloc _) rfl (Rd.new wr _ 5 1 1 rfl) (by simp [Value.oneCell']) (by unfold maxLen; omega) (by omega) (by simp; omega) ?_); intro A3 c3 w3 ho3 f3)
            go_roundw
            case rel =>
              refine ⟨6, A3, c3, by omega, rfl, rfl, ow_len 5 (by omega) ?_ ho3, (h2r.alloc _).flow f3 (ho.alloc _) (by decide), (hhr.alloc _).flow f3 (ho.alloc _) (by decide), (hbr.alloc sbr _).trans (f3.below (ho.alloc _) (by simp; omega))⟩
              simp only [lenL, List.getD_cons_zero, List.getD_cons_succ] <;> omega
            case measure => simp [intOf] <;> omega
          · go_wp2_with (at_builtin; go_must (refine wp_app_at rfl _ _ _ rfl elB rfl (ho.alloc _) rfl (Rd.new wr _ 5 1 1 rfl) (by simp [Value.oneCell']) (by unfold maxLen; omega) (by omega) (by simp; omega) ?_); intro A3 c3 w3 ho3 f3)
            go_roundw
            case rel =>
              refine ⟨7, A3, c3, by omega, rfl, rfl, ow_len 6 (by omega) ?_ ho3, (h2r.alloc _).flow f3 (ho.alloc _) (by decide), (hhr.alloc _).flow f3 (ho.alloc _) (by decide), (hbr.alloc sbr _).trans (f3.below (ho.alloc _) (by simp; omega))⟩
              simp only [lenL, List.getD_cons_zero, List.getD_cons_succ] <;> omega
            case measure => simp [intOf] <;> omega
          · go_wp2_with (at_builtin; go_must (refine wp_app_at rfl _ _ _ rfl elB rfl (ho.alloc _) rfl (Rd.new wr _ 5 1 1 rfl) (by simp [Value.oneCell']) (by unfold maxLen; omega) (by omega) (by simp; omega) ?_); intro A3 c3 w3 ho3 f3)
            go_roundw
            case rel =>
              refine ⟨8, A3, c3, by omega, rfl, rfl, ow_len 7 (by omega) ?_ ho3, (h2r.alloc _).flow f3 (ho.alloc _) (by decide), (hhr.alloc _).flow f3 (ho.alloc _) (by decide), (hbr.alloc sbr _).trans (f3.below (ho.alloc _) (by simp; omega))⟩
              simp only [lenL, List.getD_cons_zero, List.getD_cons_succ] <;> omega
            case measure => simp [intOf] <;> omega
        · obtain rfl : j = 8 := by omega
          obtain ⟨L, hL⟩ : ∃ L, L = m + 8 := ⟨_, rfl⟩
          obtain ⟨xs, hxs⟩ : ∃ xs, xs = bs ++ padT n n := ⟨_, rfl⟩
          have hoL : Ow wr w.heap.size 5 1 A' L c' (ub xs) := by rw [hL, hxs]; exact ho
          rw [← hL]
          have hL2 : L = n + zer n + 9 := by have := HZ.out.2; omega
          have hL64 : L % 64 = 0 := by rw [hL2]; exact pad_64 n
          have hLn : L ≤ 1099511627776 := by omega
          have HL2 := Lib.hid (And.intro hL (And.intro hL2 hxs))
          clear hL hL2 hxs ho
          go_wp2_with (go_at_call 134; refine (k_calls wr).mono ?_; rintro e ws ⟨gk, rfl, gkk, hk, bs'⟩)
          have hhs := hhr.same bs'
          have h2s := h2r.same bs'
          have hos := hoL.same bs'
          have hbs := hbr.trans (bs'.mono sbr)
          have lk := hk.lt
          have lh := hhr.lt
          have l2 := h2r.lt
          have nhk : ¬ gh = gk := by omega
          have n2k : ¬ g2 = gk := by omega
          clear hhr h2r hoL hbr bs'
          go_loopw [8] (ChunkR L c' A' xs w g2 gh gk) (fun i _ => L - (intOf i).toNat)
          case atStart => exact ⟨0, 0, rfl, by omega, rfl, hhs, hk, h2s, hos, hbs⟩
          case round =>
            clear hhs hk h2s hos hbs
            obtain ⟨k, j, hkj, hkn, rfl, st⟩ := hrel
            by_cases hlt : k < L
            · have hk64 : k + 64 ≤ L := by omega
              have hrd := st.row.rd
              obtain ⟨b1, o1, rfl, hb1⟩ := hrd.addr (by omega) (by omega)
              obtain ⟨B, hB⟩ : ∃ B, B = (xs.drop (64 * j)).take 64 := ⟨_, rfl⟩
              have hBl : B.length = 64 := by
                have hl := rd_len hrd
                rw [hB, List.length_take, List.length_drop, hl]; omega
              have hcellB : ∀ (wr' : World), Ow wr' w.heap.size 5 1 (some ⟨b1, o1, none⟩) L c' (ub xs) → ∀ i, i < 64 → wr'.cell? ⟨b1, o1 + (k + i), none⟩ = some (.int .u8 (B.getD i 0)) := by
                intro wr' ho i hi
                refine ho.rd.cells (k + i) _ ?_
                have hl := rd_len hrd
                rw [hB, hkj]
                simp [ub, List.getD, List.getElem?_take, hi, List.getElem?_drop, List.getElem?_eq_getElem (show 64 * j + i < xs.length by omega)]
              have lkc : L ≤ c' := st.row.le.1
              have HKJ := Lib.hid hkj
              have HB := Lib.hid (And.intro hB hBl)
              have HC := Lib.hid hcellB
              clear hkj hB hBl hcellB hrd
              have sw := st.b.size
              have l1 := st.h.lt
              have l2 := st.k.lt
              have l3 := st.o.lt
              go_wp2_with (refine wp_newrow (o := ⟨some 59, _, _, _, _, _⟩) rfl 64 22 (Array.replicate 64 (.int .u32 0)) (by kernel_rfl) ?_; intro gw w1 hw b1' gw')
              have st1 := st.same b1'
              have hw0 : Bk w1 gw 22 (wu (fil (sched B 0) 64)).toArray := by rw [sched, fil_nil]; exact hw
              have nw1 : gh ≠ gw := by omega
              have nw2 : gk ≠ gw := by omega
              have nw3 : g2 ≠ gw := by omega
              have nw4 : w.heap.size ≤ gw := by omega
              clear hw b1' gw' st
              refine sched_loop (B := B) (H := foldMix sha0 xs j) HB.out.2 HC.out hk64 hLn lkc nw1 nw2 nw3 nw4 hw0 st1 ?_
              intro v11 v12 v13 v60 v61 v62 v63 v64 v65 v66 v67 v68 v69 v70 v71 v72 v73 v74 v75 v76 v77 v78 v79 v80 v81 v82 v83 v84 v85 v86 v87 v88 v89 v90 v91 v92 v93 v94 v95 v96 v97 v98 v99 v100 v101 v102 v103 v104 v105 v106 v107 v108 v109 v110 v111 v112 v113 v114 v115 v116 v117 v118 v119 v120 v121 v122 v123 v124 v125 v126 v127 v128 v129 v130 v131 v132 v133 v134 v135 v136 v137 v138 v139 v140 v141 v142 v143 wr hw st
              clear hw0 st1
              obtain ⟨H, hH⟩ : ∃ H, H = foldMix sha0 xs j := ⟨_, rfl⟩
              have hHl : H.length = 8 := by rw [hH]; exact foldMix_length _ _ rfl _
              rw [← hH] at st
              have HH := Lib.hid (And.intro hH hHl)
              have hmx : foldMix sha0 xs (j + 1) = mixP H B := by rw [foldMix, ← hH, HB.out.1]
              have HM := Lib.hid hmx
              clear hH hHl hmx
              have hrh : Rd wr wr.heap.size 1 (some ⟨gh, 0, none⟩) 8 (wu H) := by
                have := st.h.rd (n := 8) (sz := 1) (by simp [wu, HH.out.2])
                simpa using this
              have lgw := hw.lt
              have lgh := st.h.lt
              have sbr := st.b.size
              go_wp2_with (at_builtin; refine wp_app rfl _ _ _ rfl elW rfl (Ow.new0 wr 22 1) rfl (hrh.alloc (Nat.le_refl _) _) (wu_one _) (by unfold maxLen; omega) (by omega) (by simp) ?_
                           rw [Nat.zero_add, List.nil_append]
                           intro Av cv wv hov gvv bv)
              obtain ⟨gv, rfl, hgv, hv8⟩ : ∃ gv, Av = some ⟨gv, 0, none⟩ ∧ wr.heap.size ≤ gv ∧ 8 ≤ cv := by
                rcases hov.cases with ⟨_, h, _⟩ | ⟨g, _, h1, h2, _, _, h3, _⟩
                · cases h
                · exact ⟨g, h1, h2, h3⟩
              have bv' : Below wr.heap.size wr wv := ((Below.refl _ _).alloc (Nat.le_refl _) _).trans bv
              have stv := st.same bv'
              have hwv := hw.same bv'
              have hrv : Rd wv wv.heap.size 1 (some ⟨gv, 0, none⟩) 8 (wu (rnds H B 0)) := hov.rd
              have ngv : gv ≠ gh := by omega
              clear hov gvv bv bv' st hw hrh
              refine rounds_loop (gv := gv) (cv := cv) HH.out.2 hv8 ngv hrv hwv stv ?_
              clear stv hwv hrv ngv hgv hv8
              intro v16 v17 v18 v19 v147 v148 v149 v150 v151 v152 v153 v154 v155 v156 v157 v158 v159 v160 v161 v162 v163 v164 v165 v166 v167 v168 v169 v170 v171 v172 v173 v174 v175 v176 v177 v178 v179 v180 v181 v182 v183 v184 v185 v186 v187 v188 v189 v190 v191 v192 v193 v194 v195 v196 v197 v198 v199 v200 v201 v202 v203 v204 v205 v206 v207 v208 v209 v210 v211 v212 v213 v214 v215 v216 v217 v218 v219 v220 v221 v222 v223 v224 v225 v226 v227 v228 v229 v230 v231 v232 v233 v234 v235 v236 v237 v238 v239 v240 v241 v242 v243 v244 v245 v246 gv cv wr hv8 ngv hrv st
              obtain ⟨X, hX⟩ : ∃ X, X = rnds H B 64 := ⟨_, rfl⟩
              rw [← hX] at hrv
              have hXl : X.length = 8 := by rw [hX]; exact rnds_length H B HH.out.2 64
              have HXl := Lib.hid hXl
              have HX := Lib.hid hX
              clear hX hXl
              have st0 : Stay (addTo H X 0) L c' (some ⟨b1, o1, none⟩) xs w g2 gh gk wr := by rw [addTo_zero _ _ HH.out.2]; exact st
              go_wp2
              clear st
              go_loopw [20] (AddR H X L c' (some ⟨b1, o1, none⟩) xs w g2 gh gk gv) (fun i _ => 8 - (intOf i).toNat)
              case atStart => exact ⟨0, by omega, rfl, hrv, st0⟩
              case round =>
                clear hrv st0
                obtain ⟨i, hi, rfl, hrv, st⟩ := hrel
                have sbr := st.b.size
                by_cases hlt : i < 8
                · have c2 : wr.cell? ⟨gh, i, none⟩ = some (.int .u32 (H.getD i 0)) := by rw [st.h.cell, wu_getElem? _ _ (by rw [addTo_length]; exact hlt), addTo_get _ _ _ hlt]
                  have c7 : wr.cell? ⟨gv, i, none⟩ = some (.int .u32 (X.getD i 0)) := by
                    have := hrv.cells i (.int .u32 (X.getD i 0)) (by have := wu_getElem? X i (by rw [HXl.out]; exact hlt); simpa using this)
                    rw [Nat.zero_add] at this; exact this
                  have hs := Lib.hid (addTo_set H X i hlt)
                  obtain ⟨x, hx⟩ : ∃ x, x = H.getD i 0 := ⟨_, rfl⟩
                  obtain ⟨y, hy⟩ : ∃ y, y = X.getD i 0 := ⟨_, rfl⟩
                  rw [← hx] at c2
                  rw [← hy] at c7
                  have Hxy := Lib.hid (And.intro hx hy)
                  clear hx hy
                  have hfz := st.h.frozen i
                  have lgh2 := st.h.lt
                  have j0 : (0 : Int) ≤ (i : Int) := by omega
                  have j1 : (i : Int) < 8 := by omega
                  go_wp2
                  go_region
                  all_goals go_wp2
                  all_goals
                    go_roundw
                    case rel =>
                      have hg := grown_setCell wr gh i (.int .u32 ((H.getD i 0 + X.getD i 0) % 4294967296))
                      rw [← Hxy.out.1, ← Hxy.out.2] at hg
                      refine ⟨i + 1, by omega, by go_num, (hrv.grown_ne hg ngv).drew, Stay.drewN ⟨?_, st.k.grown hg (by intro e; injection e with e; omega), st.o.grown hg (by intro e; injection e with e; omega), st.row.grown_bk st.h hg (by decide), st.b.trans (grown_below hg (by omega) sbr)⟩ 1⟩
                      have := st.h.set i (.int .u32 ((H.getD i 0 + X.getD i 0) % 4294967296))
                      rw [hs.out, ← Hxy.out.1, ← Hxy.out.2] at this
                      exact this
                    case measure => simp [intOf]; omega
                · obtain rfl : i = 8 := by omega
                  go_wp2
                  go_roundw
                  case rel =>
                    refine ⟨k + 64, j + 1, by have := HKJ.out; omega, by omega, by go_num, ?_⟩
                    rw [HM.out, mixP, ← HX.out]; exact st
                  case measure => simp [intOf]; omega
            · obtain ⟨hkL, hjL⟩ : k = L ∧ j = L / 64 := by omega
              obtain ⟨S, hS⟩ : ∃ S, S = foldMix sha0 xs (L / 64) := ⟨_, rfl⟩
              rw [hjL, ← hS] at st
              have hSl : S.length = 8 := by rw [hS]; exact foldMix_length _ _ rfl _
              have HSS := Lib.hid (And.intro hS hSl)
              clear hS hSl hkL hjL hkj
              have sbr := st.b.size
              go_wp2_with (refine wp_alloc (o := ⟨some 21, _, _, _, _, _⟩) rfl _ rfl (z := .agg (Array.replicate 32 (.int .u8 0))) (by kernel_rfl) ?_; intro g7 w7 h7 b7 l7)
              have s7 := st.same b7
              have h70 : Bk w7 g7 35 (ub (outF S 0)).toArray := by rw [outF_zero]; exact h7
              have lgh := st.h.lt
              have lg2 := st.o.lt
              have nh7 : ¬ gh = g7 := by omega
              have n27 : ¬ g2 = g7 := by omega
              have hh7 := s7.h
              have h27 := s7.o
              have hb7 := s7.b
              clear s7 st h7
              go_loopw [22] (OutR S w g2 gh g7) (fun i _ => 32 - (intOf i).toNat)
              case atStart => exact ⟨0, by omega, rfl, h70, hh7, h27, hb7⟩
              case round =>
                clear h70 hh7 h27 hb7 b7
                obtain ⟨i, hi, rfl, h7, hh, h2, hb⟩ := hrel
                have sbr := hb.size
                by_cases hlt : i < 32
                · obtain ⟨q, hq⟩ : ∃ q, q = i / 4 := ⟨_, rfl⟩
                  have hq4 : q < 8 := by omega
                  have cq : wr.cell? ⟨gh, q, none⟩ = some (.int .u32 (S.getD q 0)) := by rw [hh.cell, wu_getElem? _ _ (by rw [HSS.out.2]; exact hq4)]
                  obtain ⟨x, hx⟩ : ∃ x, x = S.getD q 0 := ⟨_, rfl⟩
                  rw [← hx] at cq
                  have e1 : (i : Int) / 4 = (q : Int) := by omega
                  have j0 : (0 : Int) ≤ (q : Int) := by omega
                  have j1 : (q : Int) < 8 := by omega
                  have i0 : (0 : Int) ≤ (i : Int) := by omega
                  have i1 : (i : Int) < 32 := by omega
                  have HX := Lib.hid (And.intro hx hq)
                  obtain ⟨r, hr4⟩ : ∃ r, r = i % 4 := ⟨_, rfl⟩
                  have hr3 : r ≤ 3 := by omega
                  have e2 : (i : Int) % 4 = (r : Int) := by omega
                  have b1 : (0 : Int) ≤ 24 - 8 * (r : Int) := by omega
                  have b2 : 24 - 8 * (r : Int) < 32 := by omega
                  have b3 : (24 - 8 * (r : Int)).toNat = 24 - 8 * r := by omega
                  have HH4 := Lib.hid (And.intro hr4 hq)
                  clear hx hq hr4
                  have hst : ∃ old, wr.cell? ⟨g7, i, none⟩ = some old := by
                    rw [h7.cell]; exact ⟨_, Array.getElem?_eq_getElem (by simp [ub_length, outF_length]; exact hlt)⟩
                  obtain ⟨old, hold⟩ := hst
                  have hfz := h7.frozen i
                  go_wp2
                  have E1 := Lib.hid (And.intro e1 e2)
                  clear e1 e2
                  go_roundw
                  case rel =>
                    have hg := grown_setCell wr g7 i (.int .u8 (x / 2 ^ (24 - 8 * r) % 256))
                    refine ⟨i + 1, by omega, by go_num, ?_, hh.grown hg (by intro h; injection h with h; exact nh7 h), h2.grown hg (by intro h; injection h with h; exact n27 h), hb.trans (grown_below hg (by omega) sbr)⟩
                    have := h7.set i (.int .u8 (x / 2 ^ (24 - 8 * r) % 256))
                    rw [out_step2 S i _ hlt (by rw [← HH4.out.2, ← HH4.out.1, ← HX.out.1])] at this
                    exact this
                  case measure => simp [intOf]; omega
                · obtain rfl : i = 32 := by omega
                  rw [outF_full] at h7
                  go_wp2_with (first
                    | (refine wp_load (o := ⟨some 281, _, _, _, _, _⟩) (cs := ub (outB S)) rfl _ _ rfl ag32 rfl (by simp [ub_length, outB_length]) ?_ ?_
                       · intro j u hu
                         rw [Nat.zero_add, h7.cell]
                         simpa using hu)
                    | (refine wp_store_all (cs := ub (outB S)) rfl _ _ _ rfl ag32 rfl rfl h2 (by simp [ub_length, outB_length]) rfl (ub_one _) ?_; intro wy h8 h9))
                  refine ret_row rfl rfl ag32 rfl h8 (by simp [ub_length, outB_length]) ⟨?_, hb.trans (grown_below h9 (by omega) sbr)⟩
                  rw [HSS.out.1, HL2.out.2.2, HL2.out.2.1, sha, HL.out]
    · have hq : ¬ m % 64 = 56 := fun h => hlt (by have := hz.1 h; omega)
      have hq2 : ¬ (m : Int) % 64 = 56 := by omega
      have HZ := Lib.hid hz
      clear hz
      have sbr := hbr.size
      go_wp2_with (at_builtin; go_must (refine wp_app_at rfl _ _ _ rfl elB rfl (ho.alloc _) rfl (Rd.new wr #[.int .u8 0] 5 1 1 rfl) (by simp [Value.oneCell']) (by unfold maxLen; omega) (by omega) (by simp; omega) ?_); intro A3 c3 w3 ho3 f3)
      go_roundw
      case rel =>
        refine ⟨m + 1, A3, c3, by omega, by omega, rfl, ?_, (h2r.alloc _).flow f3 (ho.alloc _) (by decide), (hhr.alloc _).flow f3 (ho.alloc _) (by decide), (hbr.alloc sbr _).trans (f3.below (ho.alloc _) (by simp; omega))⟩
        rw [show m + 1 - (n + 1) = m - (n + 1) + 1 by omega, List.replicate_succ']
        simpa [ub] using ho3
      case measure => simp; omega
end Go.Proofs.YtjfeehoflahblaaDoor
