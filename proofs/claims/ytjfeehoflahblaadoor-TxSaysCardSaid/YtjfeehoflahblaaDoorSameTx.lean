/- The reference's equality of transactions, of rows of transactions: each call answers whether the plain data are equal. Conditions: rows of at most 2^39 things. -/
import Derived.Test.YtjfeehoflahblaaDoorSame
import Derived.Deep.RegionHeld3
import Derived.StillTailTactics
namespace Go.Proofs.YtjfeehoflahblaaDoor
open Go.RowKit

/-- A row loaded in the still part of a region that draws its order. -/
theorem still_load {P : Program} {w : World} {ops : Array Oper} {rest : List Oper} {o : Oper} {a : Act} {Q : Act → Prop} (hgd : o.guard = none) (ty : Nat) (x : Operand) (ho : o.op = .load ty x) {n : Nat} (hA : Ag P ty n) {b off : Nat} (hx : a.eval x = .pointer (some ⟨b, off, none⟩)) {cs : List Value} (hl : cs.length = n)
    (hc : ∀ j u, cs[j]? = some u → w.cell? ⟨b, off + j, none⟩ = some u) (h : wpStill P ops w Q rest (a.put o.dst (.agg cs.toArray))) : wpStill P ops w Q (o :: rest) a := by
  refine wpStill_step fun K hK => ?_
  have hrun : (execOp a.eval o).run P w = .ok (.value (.agg cs.toArray)) w := by
    unfold execOp
    simp only [ho, hx, Instr.loadAt, Instr.sureAddr, Sem.run_bind, Sem.run_pure, Result.andThen_ok, run_load_at hA hl hc]
  rw [if_pos (by simp [Region.wanted, hgd])]
  unfold Oper.still
  rw [hrun, Oper.stillUpon_value]
  exact hK _ h
theorem ttx_eq (t u : TTx) : t = u ↔ t.ver = u.ver ∧ t.time = u.time ∧ t.ins = u.ins ∧ t.outs = u.outs := by
  cases t; cases u; simp; intro _; constructor <;> (intro h; simp [h])
def SameTxR (t u : TTx) (w : World) (g2 g3 : Nat) (c2 c3 : List Value) (i : Value) (wr : World) : Prop :=
  ∃ k : Nat, k ≤ t.ins.length ∧ i = .int .i64 k ∧ t.ins.take k = u.ins.take k ∧ Bk wr g2 26 c2.toArray ∧ Bk wr g3 26 c3.toArray ∧ Below w.heap.size w wr
def SameTxO (t u : TTx) (w : World) (g2 g3 : Nat) (c2 c3 : List Value) (i : Value) (wr : World) : Prop :=
  ∃ k : Nat, k ≤ t.outs.length ∧ i = .int .i64 k ∧ t.outs.take k = u.outs.take k ∧ Bk wr g2 26 c2.toArray ∧ Bk wr g3 26 c3.toArray ∧ Below w.heap.size w wr
theorem infoIn {l : List Value} (h : l.length = 35) : (Tryd.prog.info? 57).map (·.size) = some l.length := by rw [h]; kernel_rfl
theorem infoOut {l : List Value} (h : l.length = 33) : (Tryd.prog.info? 59).map (·.size) = some l.length := by rw [h]; kernel_rfl

set_option maxRecDepth 100000 in
set_option maxHeartbeats 4000000 in
theorem sameTx_calls (t u : TTx) (A A' B B' : Option Addr) (c c' d d' : Nat) (w : World) (hit : RdIns w w.heap.size A t.ins) (hot : RdOuts w w.heap.size A' t.outs) (hiu : RdIns w w.heap.size B u.ins) (hou : RdOuts w w.heap.size B' u.outs)
    (kt : t.Ok) (ku : u.Ok) (ft : t.Fit) (fu : u.Fit) :
    Calls Tryd.prog 27 #[.agg (txC t A c A' c').toArray, .agg (txC u B d B' d').toArray] w fun e w' => e = .returned (.bool (decide (t = u))) ∧ Below w.heap.size w w' := by
  have l1 := ft.i
  have l2 := ft.o
  have l3 := fu.i
  have l4 := fu.o
  by_cases hv : t.ver = u.ver
  · by_cases ht : t.time = u.time
    · by_cases hi : t.ins.length = u.ins.length
      · by_cases ho : t.outs.length = u.outs.length
        · have e1 : (t.ver != u.ver) = false := by simp [hv]
          have e2 : (t.time != u.time) = false := by simp [ht]
          have e3 : ((t.ins.length : Int) != (u.ins.length : Int)) = false := by simp [hi]
          have e4 : ((t.outs.length : Int) != (u.outs.length : Int)) = false := by simp [ho]
          have HL := Lib.hid (And.intro hv (And.intro ht (And.intro hi ho)))
          have i1 : t.ins.length ≤ u.ins.length := by omega
          have i2 : u.ins.length ≤ t.ins.length := by omega
          have i3 : t.outs.length ≤ u.outs.length := by omega
          have i4 : u.outs.length ≤ t.outs.length := by omega
          clear hv ht hi ho
          have tok2 : True := trivial
          have tok3 : True := trivial
          go_enter Tryd.func27, Tryd.ntmps27
          go_wp2_with (first
            | (have _t := tok2; refine wp_box (o := ⟨some 2, _, _, _, _, _⟩) rfl _ _ rfl rfl ?_; intro g2 wa h2 ba ga; clear _t tok2)
            | (have _t := tok3; refine wp_box (o := ⟨some 3, _, _, _, _, _⟩) rfl _ _ rfl rfl ?_; intro g3 wb h3 bb gb; clear _t tok3
               have h2' : Bk wb g2 26 (txC t A c A' c').toArray := h2.same bb
               have h3' : Bk wb g3 26 (txC u B d B' d').toArray := h3
               have bwb := ba.trans (bb.mono ba.size)
               have c20 : wb.cell? ⟨g2, 0, none⟩ = some (.int .u32 t.ver) := (h2'.cell 0).trans rfl
               have c21 : wb.cell? ⟨g2, 1, none⟩ = some (.slice A t.ins.length c) := (h2'.cell 1).trans rfl
               have c22 : wb.cell? ⟨g2, 2, none⟩ = some (.slice A' t.outs.length c') := (h2'.cell 2).trans rfl
               have c23 : wb.cell? ⟨g2, 3, none⟩ = some (.int .u32 t.time) := (h2'.cell 3).trans rfl
               have c30 : wb.cell? ⟨g3, 0, none⟩ = some (.int .u32 u.ver) := (h3'.cell 0).trans rfl
               have c31 : wb.cell? ⟨g3, 1, none⟩ = some (.slice B u.ins.length d) := (h3'.cell 1).trans rfl
               have c32 : wb.cell? ⟨g3, 2, none⟩ = some (.slice B' u.outs.length d') := (h3'.cell 2).trans rfl
               have c33 : wb.cell? ⟨g3, 3, none⟩ = some (.int .u32 u.time) := (h3'.cell 3).trans rfl
               clear h2 h3 ba bb))
          go_wp2_with fail
          clear e1 e2 e3 e4 c20 c21 c22 c23 c30 c31 c32 c33
          go_loopw [5] (SameTxR t u w g2 g3 (txC t A c A' c') (txC u B d B' d')) (fun i _ => t.ins.length - (intOf i).toNat)
          case atStart => exact ⟨0, by omega, rfl, rfl, h2', h3', bwb⟩
          case round =>
            clear h2' h3' bwb
            obtain ⟨k, hk, rfl, htk, h2, h3, hbw⟩ := hrel
            have HT := Lib.hid htk
            clear htk
            have c21 : wr.cell? ⟨g2, 1, none⟩ = some (.slice A t.ins.length c) := (h2.cell 1).trans rfl
            have c31 : wr.cell? ⟨g3, 1, none⟩ = some (.slice B u.ins.length d) := (h3.cell 1).trans rfl
            by_cases hlt : k < t.ins.length
            · have hlt2 : k < u.ins.length := by omega
              obtain ⟨x, hx⟩ : ∃ x, t.ins[k]? = some x := ⟨_, List.getElem?_eq_getElem hlt⟩
              obtain ⟨y, hy⟩ : ∃ y, u.ins[k]? = some y := ⟨_, List.getElem?_eq_getElem hlt2⟩
              obtain ⟨b, o, K, kc, rfl, hbl, hcell, hkey⟩ := hit k x hx
              obtain ⟨b', o', K', kc', rfl, hbl', hcell', hkey'⟩ := hiu k y hy
              have okx := kt.ins x (mem_of_get hx)
              have oky := ku.ins y (mem_of_get hy)
              have HX := Lib.hid (And.intro hx hy)
              have lx : x.key.length ≤ 1099511627776 := by have := txI_in_le t k x hx; rw [inB_length x okx.txl] at this; have := ft.b; omega
              have ly : y.key.length ≤ 1099511627776 := by have := txI_in_le u k y hy; rw [inB_length y oky.txl] at this; have := fu.b; omega
              have S0 : wr.cell? ⟨g2, 1, none⟩ = some (.slice (some ⟨b, o, none⟩) t.ins.length c) ∧ wr.cell? ⟨g3, 1, none⟩ = some (.slice (some ⟨b', o', none⟩) u.ins.length d) ∧ wr.rangeAt b (o + k * 35) (inC x K kc) ∧ wr.rangeAt b' (o' + k * 35) (inC y K' kc') :=
                ⟨c21, c31, fun j v hv => (hbw.cell (p := ⟨b, _, none⟩) hbl).trans (hcell j v hv), fun j v hv => (hbw.cell (p := ⟨b', _, none⟩) hbl').trans (hcell' j v hv)⟩
              have S0d : wr.drew.cell? ⟨g2, 1, none⟩ = some (.slice (some ⟨b, o, none⟩) t.ins.length c) ∧ wr.drew.cell? ⟨g3, 1, none⟩ = some (.slice (some ⟨b', o', none⟩) u.ins.length d) ∧ wr.drew.rangeAt b (o + k * 35) (inC x K kc) ∧ wr.drew.rangeAt b' (o' + k * 35) (inC y K' kc') := S0
              have lnx := inC_length okx.txl K kc
              have lny := inC_length oky.txl K' kc'
              have HLN := Lib.hid (And.intro lnx lny)
              have hu := Tryd.underlying57
              have ix := infoIn lnx
              have iy := infoIn lny
              have o1 := inC_one x K kc
              have o2 := inC_one y K' kc'
              have j0 : (0 : Int) ≤ (k : Int) := by omega
              have j1 : (k : Int) < (t.ins.length : Int) := by omega
              have j2 : (k : Int) < (u.ins.length : Int) := by omega
              have rx := (hkey.below hbw.drew).more hbw.size
              have ry := (hkey'.below hbw.drew).more hbw.size
              have bd := hbw.drew
              have OKX := Lib.hid (And.intro okx.txl oky.txl)
              have HS := sameIn_calls x y K K' kc kc' wr.drew okx.txl oky.txl rx ry lx ly
              clear okx oky hx hy hcell hcell' lnx lny
              by_cases hxy : x = y
              · rw [decide_eq_true hxy] at HS
                have HS := Lib.hid HS
                have HXY := Lib.hid hxy
                clear hxy
                go_wp2_with fail
                go_still_tail 10, (by kernel_rfl)
                refine still_load (o := ⟨some 48, _, _, _, _, _⟩) (cs := inC x K kc) rfl _ _ rfl agIn rfl HLN.out.1 S0d.2.2.1 ?_
                repeat still_step
                refine still_load (o := ⟨some 53, _, _, _, _, _⟩) (cs := inC y K' kc') rfl _ _ rfl agIn rfl HLN.out.2 S0d.2.2.2 ?_
                repeat still_step
                refine wpStill_nil ?_
                change wpList _ _ _ _ _ wr.drew
                go_wp2_with (first
                  | (go_at_call 91; refine HS.out.mono ?_; rintro e wc ⟨rfl, bc⟩
                     have bwc := bd.trans (bc.mono bd.size)
                     have h2c := h2.drew.same bc
                     have h3c := h3.drew.same bc))
                go_roundw
                case rel => exact ⟨k + 1, by omega, by go_num, take_step HT.out HX.out.1 HX.out.2 HXY.out, h2c, h3c, bwc⟩
                case measure => simp [intOf]; omega
              · rw [decide_eq_false hxy] at HS
                have HS := Lib.hid HS
                have HXY := Lib.hid hxy
                clear hxy
                go_wp2_with fail
                go_still_tail 10, (by kernel_rfl)
                refine still_load (o := ⟨some 48, _, _, _, _, _⟩) (cs := inC x K kc) rfl _ _ rfl agIn rfl HLN.out.1 S0d.2.2.1 ?_
                repeat still_step
                refine still_load (o := ⟨some 53, _, _, _, _, _⟩) (cs := inC y K' kc') rfl _ _ rfl agIn rfl HLN.out.2 S0d.2.2.2 ?_
                repeat still_step
                refine wpStill_nil ?_
                change wpList _ _ _ _ _ wr.drew
                go_wp2_with (first
                  | (go_at_call 91; refine HS.out.mono ?_; rintro e wc ⟨rfl, bc⟩
                     have bwc := bd.trans (bc.mono bd.size)))
                go_ret
                exact ⟨by rw [decide_eq_false (fun h => ne_at HX.out.1 HX.out.2 HXY.out ((ttx_eq t u).1 h).2.2.1)]; rfl, bwc⟩
            · obtain rfl : k = t.ins.length := by omega
              have hins : t.ins = u.ins := take_all rfl HL.out.2.2.1.symm HT.out
              have HI := Lib.hid hins
              clear hins
              go_wp2_with fail
              clear c21 c31
              go_loopw [6] (SameTxO t u w g2 g3 (txC t A c A' c') (txC u B d B' d')) (fun i _ => t.outs.length - (intOf i).toNat)
              case atStart => exact ⟨0, by omega, rfl, rfl, h2, h3, hbw⟩
              case round =>
                clear h2 h3 hbw
                obtain ⟨k, hk, rfl, htk, h2, h3, hbw⟩ := hrel
                have HT := Lib.hid htk
                clear htk
                have c22 : wr.cell? ⟨g2, 2, none⟩ = some (.slice A' t.outs.length c') := (h2.cell 2).trans rfl
                have c32 : wr.cell? ⟨g3, 2, none⟩ = some (.slice B' u.outs.length d') := (h3.cell 2).trans rfl
                by_cases hlt : k < t.outs.length
                · have hlt2 : k < u.outs.length := by omega
                  obtain ⟨x, hx⟩ : ∃ x, t.outs[k]? = some x := ⟨_, List.getElem?_eq_getElem hlt⟩
                  obtain ⟨y, hy⟩ : ∃ y, u.outs[k]? = some y := ⟨_, List.getElem?_eq_getElem hlt2⟩
                  obtain ⟨b, o, rfl, hbl, hcell⟩ := hot k x hx
                  obtain ⟨b', o', rfl, hbl', hcell'⟩ := hou k y hy
                  have okx := kt.outs x (mem_of_get hx)
                  have oky := ku.outs y (mem_of_get hy)
                  have HX := Lib.hid (And.intro hx hy)
                  have S0d : wr.drew.rangeAt b (o + k * 33) (outC x) ∧ wr.drew.rangeAt b' (o' + k * 33) (outC y) :=
                    ⟨fun j v hv => (hbw.cell (p := ⟨b, _, none⟩) hbl).trans (hcell j v hv), fun j v hv => (hbw.cell (p := ⟨b', _, none⟩) hbl').trans (hcell' j v hv)⟩
                  have HLN := Lib.hid (And.intro (outC_length okx.lockl) (outC_length oky.lockl))
                  have bd := hbw.drew
                  have HS := sameOut_calls x y wr.drew okx.lockl oky.lockl
                  clear okx oky hx hy hcell hcell'
                  by_cases hxy : x = y
                  all_goals
                    first | rw [decide_eq_true hxy] at HS | rw [decide_eq_false hxy] at HS
                    have HS := Lib.hid HS
                    have HXY := Lib.hid hxy
                    clear hxy
                    go_wp2_with fail
                    go_still_tail 10, (by kernel_rfl)
                    refine still_load (o := ⟨some 67, _, _, _, _, _⟩) (cs := outC x) rfl _ _ rfl agOut rfl HLN.out.1 S0d.1 ?_
                    repeat still_step
                    refine still_load (o := ⟨some 72, _, _, _, _, _⟩) (cs := outC y) rfl _ _ rfl agOut rfl HLN.out.2 S0d.2 ?_
                    repeat still_step
                    refine wpStill_nil ?_
                    change wpList _ _ _ _ _ wr.drew
                    go_wp2_with fail
                    refine HS.out.mono ?_
                    rintro e wc ⟨rfl, bc⟩
                    have bwc := bd.trans (bc.mono bd.size)
                    have h2c := h2.drew.same bc
                    have h3c := h3.drew.same bc
                    go_wp2_with fail
                  · go_roundw
                    case rel => exact ⟨k + 1, by omega, by go_num, take_step HT.out HX.out.1 HX.out.2 HXY.out, h2c, h3c, bwc⟩
                    case measure => simp [intOf]; omega
                  · go_ret
                    exact ⟨by rw [decide_eq_false (fun h => ne_at HX.out.1 HX.out.2 HXY.out ((ttx_eq t u).1 h).2.2.2)]; rfl, bwc⟩
                · obtain rfl : k = t.outs.length := by omega
                  have hout : t.outs = u.outs := take_all rfl HL.out.2.2.2.symm HT.out
                  have HO := Lib.hid hout
                  clear hout
                  go_wp2_with fail
                  go_ret
                  exact ⟨by rw [decide_eq_true ((ttx_eq t u).2 ⟨HL.out.1, HL.out.2.1, HI.out, HO.out⟩)]; rfl, hbw⟩
        · have e1 : (t.ver != u.ver) = false := by simp [hv]
          have e2 : (t.time != u.time) = false := by simp [ht]
          have i1 : t.ins.length ≤ u.ins.length := by omega
          have i2 : u.ins.length ≤ t.ins.length := by omega
          have e4 : ((t.outs.length : Int) != (u.outs.length : Int)) = true := by simp; omega
          have n4 : ¬ (t.outs.length : Int) = (u.outs.length : Int) := by omega
          have HN := Lib.hid ho
          clear hv ht hi ho
          have tok2 : True := trivial
          have tok3 : True := trivial
          go_enter Tryd.func27, Tryd.ntmps27
          go_wp2_with (first
            | (have _t := tok2; refine wp_box (o := ⟨some 2, _, _, _, _, _⟩) rfl _ _ rfl rfl ?_; intro g2 wa h2 ba ga; clear _t tok2)
            | (have _t := tok3; refine wp_box (o := ⟨some 3, _, _, _, _, _⟩) rfl _ _ rfl rfl ?_; intro g3 wb h3 bb gb; clear _t tok3
               have h2' : Bk wb g2 26 (txC t A c A' c').toArray := h2.same bb
               have h3' : Bk wb g3 26 (txC u B d B' d').toArray := h3
               have bwb := ba.trans (bb.mono ba.size)
               have c20 : wb.cell? ⟨g2, 0, none⟩ = some (.int .u32 t.ver) := (h2'.cell 0).trans rfl
               have c21 : wb.cell? ⟨g2, 1, none⟩ = some (.slice A t.ins.length c) := (h2'.cell 1).trans rfl
               have c22 : wb.cell? ⟨g2, 2, none⟩ = some (.slice A' t.outs.length c') := (h2'.cell 2).trans rfl
               have c23 : wb.cell? ⟨g2, 3, none⟩ = some (.int .u32 t.time) := (h2'.cell 3).trans rfl
               have c30 : wb.cell? ⟨g3, 0, none⟩ = some (.int .u32 u.ver) := (h3'.cell 0).trans rfl
               have c31 : wb.cell? ⟨g3, 1, none⟩ = some (.slice B u.ins.length d) := (h3'.cell 1).trans rfl
               have c32 : wb.cell? ⟨g3, 2, none⟩ = some (.slice B' u.outs.length d') := (h3'.cell 2).trans rfl
               have c33 : wb.cell? ⟨g3, 3, none⟩ = some (.int .u32 u.time) := (h3'.cell 3).trans rfl
               clear h2 h3 ba bb))
          go_wp2_with fail
          go_ret
          exact ⟨by rw [decide_eq_false (fun h => HN.out (by rw [h]))]; rfl, bwb⟩
      · have e1 : (t.ver != u.ver) = false := by simp [hv]
        have e2 : (t.time != u.time) = false := by simp [ht]
        have e4 : ((t.ins.length : Int) != (u.ins.length : Int)) = true := by simp; omega
        have n4 : ¬ (t.ins.length : Int) = (u.ins.length : Int) := by omega
        have HN := Lib.hid hi
        clear hv ht hi
        have tok2 : True := trivial
        have tok3 : True := trivial
        go_enter Tryd.func27, Tryd.ntmps27
        go_wp2_with (first
          | (have _t := tok2; refine wp_box (o := ⟨some 2, _, _, _, _, _⟩) rfl _ _ rfl rfl ?_; intro g2 wa h2 ba ga; clear _t tok2)
          | (have _t := tok3; refine wp_box (o := ⟨some 3, _, _, _, _, _⟩) rfl _ _ rfl rfl ?_; intro g3 wb h3 bb gb; clear _t tok3
             have h2' : Bk wb g2 26 (txC t A c A' c').toArray := h2.same bb
             have h3' : Bk wb g3 26 (txC u B d B' d').toArray := h3
             have bwb := ba.trans (bb.mono ba.size)
             have c20 : wb.cell? ⟨g2, 0, none⟩ = some (.int .u32 t.ver) := (h2'.cell 0).trans rfl
             have c21 : wb.cell? ⟨g2, 1, none⟩ = some (.slice A t.ins.length c) := (h2'.cell 1).trans rfl
             have c22 : wb.cell? ⟨g2, 2, none⟩ = some (.slice A' t.outs.length c') := (h2'.cell 2).trans rfl
             have c23 : wb.cell? ⟨g2, 3, none⟩ = some (.int .u32 t.time) := (h2'.cell 3).trans rfl
             have c30 : wb.cell? ⟨g3, 0, none⟩ = some (.int .u32 u.ver) := (h3'.cell 0).trans rfl
             have c31 : wb.cell? ⟨g3, 1, none⟩ = some (.slice B u.ins.length d) := (h3'.cell 1).trans rfl
             have c32 : wb.cell? ⟨g3, 2, none⟩ = some (.slice B' u.outs.length d') := (h3'.cell 2).trans rfl
             have c33 : wb.cell? ⟨g3, 3, none⟩ = some (.int .u32 u.time) := (h3'.cell 3).trans rfl
             clear h2 h3 ba bb))
        go_wp2_with fail
        go_ret
        exact ⟨by rw [decide_eq_false (fun h => HN.out (by rw [h]))]; rfl, bwb⟩
    · have e1 : (t.ver != u.ver) = false := by simp [hv]
      have e2 : (t.time != u.time) = true := by simp [ht]
      have HN := Lib.hid ht
      clear hv ht
      have tok2 : True := trivial
      have tok3 : True := trivial
      go_enter Tryd.func27, Tryd.ntmps27
      go_wp2_with (first
        | (have _t := tok2; refine wp_box (o := ⟨some 2, _, _, _, _, _⟩) rfl _ _ rfl rfl ?_; intro g2 wa h2 ba ga; clear _t tok2)
        | (have _t := tok3; refine wp_box (o := ⟨some 3, _, _, _, _, _⟩) rfl _ _ rfl rfl ?_; intro g3 wb h3 bb gb; clear _t tok3
           have h2' : Bk wb g2 26 (txC t A c A' c').toArray := h2.same bb
           have h3' : Bk wb g3 26 (txC u B d B' d').toArray := h3
           have bwb := ba.trans (bb.mono ba.size)
           have c20 : wb.cell? ⟨g2, 0, none⟩ = some (.int .u32 t.ver) := (h2'.cell 0).trans rfl
           have c21 : wb.cell? ⟨g2, 1, none⟩ = some (.slice A t.ins.length c) := (h2'.cell 1).trans rfl
           have c22 : wb.cell? ⟨g2, 2, none⟩ = some (.slice A' t.outs.length c') := (h2'.cell 2).trans rfl
           have c23 : wb.cell? ⟨g2, 3, none⟩ = some (.int .u32 t.time) := (h2'.cell 3).trans rfl
           have c30 : wb.cell? ⟨g3, 0, none⟩ = some (.int .u32 u.ver) := (h3'.cell 0).trans rfl
           have c31 : wb.cell? ⟨g3, 1, none⟩ = some (.slice B u.ins.length d) := (h3'.cell 1).trans rfl
           have c32 : wb.cell? ⟨g3, 2, none⟩ = some (.slice B' u.outs.length d') := (h3'.cell 2).trans rfl
           have c33 : wb.cell? ⟨g3, 3, none⟩ = some (.int .u32 u.time) := (h3'.cell 3).trans rfl
           clear h2 h3 ba bb))
      go_wp2_with fail
      go_ret
      exact ⟨by rw [decide_eq_false (fun h => HN.out (by rw [h]))]; rfl, bwb⟩
  · have e1 : (t.ver != u.ver) = true := by simp [hv]
    have HN := Lib.hid hv
    clear hv
    have tok2 : True := trivial
    have tok3 : True := trivial
    go_enter Tryd.func27, Tryd.ntmps27
    go_wp2_with (first
      | (have _t := tok2; refine wp_box (o := ⟨some 2, _, _, _, _, _⟩) rfl _ _ rfl rfl ?_; intro g2 wa h2 ba ga; clear _t tok2)
      | (have _t := tok3; refine wp_box (o := ⟨some 3, _, _, _, _, _⟩) rfl _ _ rfl rfl ?_; intro g3 wb h3 bb gb; clear _t tok3
         have h2' : Bk wb g2 26 (txC t A c A' c').toArray := h2.same bb
         have h3' : Bk wb g3 26 (txC u B d B' d').toArray := h3
         have bwb := ba.trans (bb.mono ba.size)
         have c20 : wb.cell? ⟨g2, 0, none⟩ = some (.int .u32 t.ver) := (h2'.cell 0).trans rfl
         have c21 : wb.cell? ⟨g2, 1, none⟩ = some (.slice A t.ins.length c) := (h2'.cell 1).trans rfl
         have c22 : wb.cell? ⟨g2, 2, none⟩ = some (.slice A' t.outs.length c') := (h2'.cell 2).trans rfl
         have c23 : wb.cell? ⟨g2, 3, none⟩ = some (.int .u32 t.time) := (h2'.cell 3).trans rfl
         have c30 : wb.cell? ⟨g3, 0, none⟩ = some (.int .u32 u.ver) := (h3'.cell 0).trans rfl
         have c31 : wb.cell? ⟨g3, 1, none⟩ = some (.slice B u.ins.length d) := (h3'.cell 1).trans rfl
         have c32 : wb.cell? ⟨g3, 2, none⟩ = some (.slice B' u.outs.length d') := (h3'.cell 2).trans rfl
         have c33 : wb.cell? ⟨g3, 3, none⟩ = some (.int .u32 u.time) := (h3'.cell 3).trans rfl
         clear h2 h3 ba bb))
    go_wp2_with fail
    go_ret
    exact ⟨by rw [decide_eq_false (fun h => HN.out (by rw [h]))]; rfl, bwb⟩
end Go.Proofs.YtjfeehoflahblaaDoor
