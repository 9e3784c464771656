/- The words of a chunk, in the reference's digest: its loop. Conditions: 64 bytes. -/
import Derived.Test.YtjfeehoflahblaaDoorTwice
import Derived.Test.YtjfeehoflahblaaDoorCompact
import Derived.BigRegion
import Derived.Deep.RegionHeld3
namespace Go.Proofs.YtjfeehoflahblaaDoor
open Go.RowKit

theorem elW : El Tryd.prog 175 22 1 4 := El.mk Tryd.underlying175 (z := .int .u32 0) (by kernel_rfl) rfl (by omega)
def zH : Array Value := (Value.agg (Array.replicate 32 (.int .u8 0))).cells
/-- The row so far: n bytes, the first byte of the end, zeros. -/
def PadR (xs : List Int) (n : Nat) (w : World) (g2 gh : Nat) (v : Value) (wr : World) : Prop :=
  ∃ (m : Nat) (A' : Option Addr) (c' : Nat), n + 1 ≤ m ∧ m ≤ n + 1 + zer n ∧ v = .slice A' m c' ∧ Ow wr w.heap.size 5 1 A' m c' (ub (xs ++ 128 :: List.replicate (m - (n + 1)) 0)) ∧ Bk wr g2 35 zH ∧ Bk wr gh 22 (wu sha0).toArray ∧ Below w.heap.size w wr
def LenR (xs : List Int) (n m : Nat) (w : World) (g2 gh : Nat) (v i : Value) (wr : World) : Prop :=
  ∃ (j : Nat) (A' : Option Addr) (c' : Nat), j ≤ 8 ∧ i = .int .i64 (7 - (j : Int)) ∧ v = .slice A' (m + j) c' ∧ Ow wr w.heap.size 5 1 A' (m + j) c' (ub (xs ++ 128 :: (List.replicate (zer n) 0 ++ lenB (8 * (n : Int)) j))) ∧ Bk wr g2 35 zH ∧ Bk wr gh 22 (wu sha0).toArray ∧ Below w.heap.size w wr
theorem ow_new {w : World} {g t n : Nat} {cs : List Value} (h : Bk w g t cs.toArray) (hl : cs.length = n) (hm : n ≤ maxLen) (base : Nat) (hb : base ≤ g) : Ow w base t 1 (some ⟨g, 0, none⟩) n n cs := by
  have := Ow.of_bk (base := base) (n := n) (c := n) (sz := 1) (cur := cs.toArray) h hb (Nat.le_refl _) hm (by simpa using hl)
  simpa [List.take_of_length_le (show cs.length ≤ n by omega)] using this

/-- What stays while a chunk is mixed in: the eight words, the constants, the result's place, the row. -/
structure Stay (H : List Int) (L c' : Nat) (A' : Option Addr) (xs : List Int) (w : World) (g2 gh gk : Nat) (wr : World) : Prop where
  h : Bk wr gh 22 (wu H).toArray
  k : Bk wr gk 22 (wu shaK).toArray
  o : Bk wr g2 35 zH
  row : Ow wr w.heap.size 5 1 A' L c' (ub xs)
  b : Below w.heap.size w wr
section
variable {H : List Int} {L c' : Nat} {A' : Option Addr} {xs : List Int} {w : World} {g2 gh gk : Nat} {wr w' : World}
theorem Stay.grown (s : Stay H L c' A' xs w g2 gh gk wr) {g : Nat} {cs : Array Value} (hb : Bk wr g 22 cs) (hg : wr.grownBy w' (some g)) (n1 : gh ≠ g) (n2 : gk ≠ g) (n3 : g2 ≠ g) (n4 : w.heap.size ≤ g) : Stay H L c' A' xs w g2 gh gk w' :=
  ⟨s.h.grown hg (by intro e; injection e with e; exact n1 e), s.k.grown hg (by intro e; injection e with e; exact n2 e), s.o.grown hg (by intro e; injection e with e; exact n3 e), s.row.grown_bk hb hg (by decide), s.b.trans (grown_below hg n4 s.b.size)⟩
theorem Stay.same (s : Stay H L c' A' xs w g2 gh gk wr) (hb : Below wr.heap.size wr w') : Stay H L c' A' xs w g2 gh gk w' :=
  ⟨s.h.same hb, s.k.same hb, s.o.same hb, s.row.same hb, s.b.trans (hb.mono s.b.size)⟩
theorem Stay.drewN (s : Stay H L c' A' xs w g2 gh gk wr) (n : Nat) : Stay H L c' A' xs w g2 gh gk (wr.drewN n) :=
  ⟨s.h.drewN n, s.k.drewN n, s.o.drewN n, s.row.drewN n, bl_drewN s.b n⟩
end
theorem grown_setCell (w : World) (g i : Nat) (u : Value) : w.grownBy (w.setCell ⟨g, i, none⟩ u) (some g) :=
  ⟨rfl, rfl, rfl, by simp [World.setCell], fun j _ hne => Below.heap_setCell w ⟨g, i, none⟩ u j (by intro e; exact hne (by rw [e]))⟩
/-- A row of the call's own that the walk lays itself. -/
theorem wp_newrow {P : Program} {w : World} {ops : Array Oper} {rest : List Oper} {o : Oper} {a : Act} {Q : Exit → Act → World → Prop} (hgd : o.guard = none) (n e : Nat) (cs : Array Value)
    (hrun : (execOp a.eval o).run P w = .ok (.value (.slice (some ⟨w.heap.size, 0, none⟩) n n)) (w.alloc (.cells cs e)))
    (h : ∀ g w', Bk w' g e cs → Below w.heap.size w w' → w.heap.size ≤ g → wpList P ops Q rest (a.put o.dst (.slice (some ⟨g, 0, none⟩) n n)) w') : wpList P ops Q (o :: rest) a w := by
  refine wpList_plain hgd fun K hK => ?_
  unfold Oper.wp
  rw [hrun]
  exact hK _ _ (h _ _ (Bk.new w e cs) ((Below.refl _ _).alloc (Nat.le_refl _) _) (Nat.le_refl _))
def SchedR (B : List Int) (H : List Int) (L c' : Nat) (A' : Option Addr) (xs : List Int) (w : World) (g2 gh gk gw : Nat) (i : Value) (wr : World) : Prop :=
  ∃ t : Nat, t ≤ 64 ∧ i = .int .i64 t ∧ Bk wr gw 22 (wu (fil (sched B t) 64)).toArray ∧ Stay H L c' A' xs w g2 gh gk wr
def RoundR (B : List Int) (H : List Int) (L c' : Nat) (A' : Option Addr) (xs : List Int) (w : World) (g2 gh gk gw : Nat) (v i : Value) (wr : World) : Prop :=
  ∃ (t gv cv : Nat), t ≤ 64 ∧ i = .int .i64 t ∧ v = .slice (some ⟨gv, 0, none⟩) 8 cv ∧ 8 ≤ cv ∧ gv ≠ gh ∧ Rd wr wr.heap.size 1 (some ⟨gv, 0, none⟩) 8 (wu (rnds H B t)) ∧ Bk wr gw 22 (wu (sched B 64)).toArray ∧ Stay H L c' A' xs w g2 gh gk wr
theorem Rd.grown_ne {w w' : World} {B n g gv : Nat} {xs : List Value} (h : Rd w B 1 (some ⟨gv, 0, none⟩) n xs) (hg : w.grownBy w' (some g)) (hne : gv ≠ g) : Rd w' w'.heap.size 1 (some ⟨gv, 0, none⟩) n xs := by
  refine ⟨h.1, fun j u hu => ?_⟩
  obtain ⟨b, o, e, hb, hc⟩ := h.2 j u hu
  injection e with e; injection e with e1 e2; subst e1; subst e2
  have hlt := World.block_lt_of_cell? w _ hc
  exact ⟨gv, 0, rfl, Nat.lt_of_lt_of_le hlt hg.size, grown_cell hg (fun q => hne (by injection q)) hc⟩
def AddR (H X : List Int) (L c' : Nat) (A' : Option Addr) (xs : List Int) (w : World) (g2 gh gk gv : Nat) (i : Value) (wr : World) : Prop :=
  ∃ t : Nat, t ≤ 8 ∧ i = .int .i64 t ∧ Rd wr wr.heap.size 1 (some ⟨gv, 0, none⟩) 8 (wu X) ∧ Stay (addTo H X t) L c' A' xs w g2 gh gk wr
def OutR (S : List Int) (w : World) (g2 gh g7 : Nat) (i : Value) (wr : World) : Prop :=
  ∃ t : Nat, t ≤ 32 ∧ i = .int .i64 t ∧ Bk wr g7 35 (ub (outF S t)).toArray ∧ Bk wr gh 22 (wu S).toArray ∧ Bk wr g2 35 zH ∧ Below w.heap.size w wr
theorem out_step2 (S : List Int) (i : Nat) (X : Int) (hi : i < 32) (h : X = S.getD (i / 4) 0 / 2 ^ (24 - 8 * (i % 4)) % 256) : (ub (outF S i)).toArray.setIfInBounds i (.int .u8 X) = (ub (outF S (i + 1))).toArray := by
  have e := outF_set S i hi
  rw [← h] at e
  rw [← e]
  simp [ub, List.map_set]

/-- The bodies of a text's loops, in order. -/
def loopsOf : Code → List Code
  | .loop c => .loop c :: loopsOf c
  | .seq a b => loopsOf a ++ loopsOf b
  | .block _ c => loopsOf c
  | .scope c => loopsOf c
  | .cond _ a b => loopsOf a ++ loopsOf b
  | _ => []
noncomputable def shaLoop (i : Nat) : Code := ((Tryd.f75.body.map loopsOf).getD []).getD i .skip

set_option maxRecDepth 1000000 in
set_option maxHeartbeats 40000000 in
theorem sched_loop {e0 e1 e2 e3 e5 e6 e7 e11 e12 e13 e14 e15 e16 e17 e18 e19 e20 e21 e22 e23 e24 e25 e26 e27 e28 e29 e30 e31 e32 e33 e34 e35 e36 e37 e38 e39 e40 e41 e42 e43 e44 e45 e46 e47 e48 e49 e50 e51 e52 e53 e54 e55 e56 e57 e58 e59 e60 e61 e62 e63 e64 e65 e66 e67 e68 e69 e70 e71 e72 e73 e74 e75 e76 e77 e78 e79 e80 e81 e82 e83 e84 e85 e86 e87 e88 e89 e90 e91 e92 e93 e94 e95 e96 e97 e98 e99 e100 e101 e102 e103 e104 e105 e106 e107 e108 e109 e110 e111 e112 e113 e114 e115 e116 e117 e118 e119 e120 e121 e122 e123 e124 e125 e126 e127 e128 e129 e130 e131 e132 e133 e134 e135 e136 e137 e138 e139 e140 e141 e142 e143 e144 e145 e146 e147 e148 e149 e150 e151 e152 e153 e154 e155 e156 e157 e158 e159 e160 e161 e162 e163 e164 e165 e166 e167 e168 e169 e170 e171 e172 e173 e174 e175 e176 e177 e178 e179 e180 e181 e182 e183 e184 e185 e186 e187 e188 e189 e190 e191 e192 e193 e194 e195 e196 e197 e198 e199 e200 e201 e202 e203 e204 e205 e206 e207 e208 e209 e210 e211 e212 e213 e214 e215 e216 e217 e218 e219 e220 e221 e222 e223 e224 e225 e226 e227 e228 e229 e230 e231 e232 e233 e234 e235 e236 e237 e238 e239 e240 e241 e242 e243 e244 e245 e246 e247 e248 e249 e250 e251 e252 e253 e254 e255 e256 e257 e258 e259 e260 e261 e262 e263 e264 e265 e266 e267 e268 e269 e270 e271 e272 e273 e274 e275 e276 e277 e278 e279 e280 e281 : Value} {Q0 : Exit → Act → World → Prop} {w w1 : World} {b1 o1 L c' k g2 gh gk gw : Nat} {B H xs : List Int}
    (hbl : B.length = 64) (hcell : ∀ (wr' : World), Ow wr' w.heap.size 5 1 (some ⟨b1, o1, none⟩) L c' (ub xs) → ∀ i, i < 64 → wr'.cell? ⟨b1, o1 + (k + i), none⟩ = some (.int .u8 (B.getD i 0)))
    (hk64 : k + 64 ≤ L) (hLn : L ≤ 1099511627776) (lkc : L ≤ c') (nw1 : gh ≠ gw) (nw2 : gk ≠ gw) (nw3 : g2 ≠ gw) (nw4 : w.heap.size ≤ gw)
    (hw0 : Bk w1 gw 22 (wu (fil (sched B 0) 64)).toArray) (st1 : Stay H L c' (some ⟨b1, o1, none⟩) xs w g2 gh gk w1)
    (hexit : ∀ (u11 u12 u13 u60 u61 u62 u63 u64 u65 u66 u67 u68 u69 u70 u71 u72 u73 u74 u75 u76 u77 u78 u79 u80 u81 u82 u83 u84 u85 u86 u87 u88 u89 u90 u91 u92 u93 u94 u95 u96 u97 u98 u99 u100 u101 u102 u103 u104 u105 u106 u107 u108 u109 u110 u111 u112 u113 u114 u115 u116 u117 u118 u119 u120 u121 u122 u123 u124 u125 u126 u127 u128 u129 u130 u131 u132 u133 u134 u135 u136 u137 u138 u139 u140 u141 u142 u143 : Value) (w' : World), Bk w' gw 22 (wu (sched B 64)).toArray → Stay H L c' (some ⟨b1, o1, none⟩) xs w g2 gh gk w' → Q0 (.exit 6) ⟨(List.toArray (e0 :: e1 :: e2 :: e3 :: .slice (some ⟨b1, o1, none⟩) L c' :: e5 :: e6 :: e7 :: .int .i64 k :: .slice (some ⟨gw, 0, none⟩) 64 64 :: .int .i64 64 :: u11 :: u12 :: u13 :: e14 :: e15 :: e16 :: e17 :: e18 :: e19 :: e20 :: e21 :: e22 :: e23 :: e24 :: e25 :: e26 :: e27 :: e28 :: e29 :: e30 :: e31 :: e32 :: e33 :: e34 :: e35 :: e36 :: e37 :: e38 :: e39 :: e40 :: e41 :: e42 :: e43 :: e44 :: e45 :: e46 :: e47 :: e48 :: e49 :: e50 :: e51 :: e52 :: e53 :: e54 :: e55 :: e56 :: e57 :: e58 :: e59 :: u60 :: u61 :: u62 :: u63 :: u64 :: u65 :: u66 :: u67 :: u68 :: u69 :: u70 :: u71 :: u72 :: u73 :: u74 :: u75 :: u76 :: u77 :: u78 :: u79 :: u80 :: u81 :: u82 :: u83 :: u84 :: u85 :: u86 :: u87 :: u88 :: u89 :: u90 :: u91 :: u92 :: u93 :: u94 :: u95 :: u96 :: u97 :: u98 :: u99 :: u100 :: u101 :: u102 :: u103 :: u104 :: u105 :: u106 :: u107 :: u108 :: u109 :: u110 :: u111 :: u112 :: u113 :: u114 :: u115 :: u116 :: u117 :: u118 :: u119 :: u120 :: u121 :: u122 :: u123 :: u124 :: u125 :: u126 :: u127 :: u128 :: u129 :: u130 :: u131 :: u132 :: u133 :: u134 :: u135 :: u136 :: u137 :: u138 :: u139 :: u140 :: u141 :: u142 :: u143 :: e144 :: e145 :: e146 :: e147 :: e148 :: e149 :: e150 :: e151 :: e152 :: e153 :: e154 :: e155 :: e156 :: e157 :: e158 :: e159 :: e160 :: e161 :: e162 :: e163 :: e164 :: e165 :: e166 :: e167 :: e168 :: e169 :: e170 :: e171 :: e172 :: e173 :: e174 :: e175 :: e176 :: e177 :: e178 :: e179 :: e180 :: e181 :: e182 :: e183 :: e184 :: e185 :: e186 :: e187 :: e188 :: e189 :: e190 :: e191 :: e192 :: e193 :: e194 :: e195 :: e196 :: e197 :: e198 :: e199 :: e200 :: e201 :: e202 :: e203 :: e204 :: e205 :: e206 :: e207 :: e208 :: e209 :: e210 :: e211 :: e212 :: e213 :: e214 :: e215 :: e216 :: e217 :: e218 :: e219 :: e220 :: e221 :: e222 :: e223 :: e224 :: e225 :: e226 :: e227 :: e228 :: e229 :: e230 :: e231 :: e232 :: e233 :: e234 :: e235 :: e236 :: e237 :: e238 :: e239 :: e240 :: e241 :: e242 :: e243 :: e244 :: e245 :: e246 :: e247 :: e248 :: e249 :: e250 :: e251 :: e252 :: e253 :: e254 :: e255 :: e256 :: e257 :: e258 :: e259 :: e260 :: e261 :: e262 :: e263 :: e264 :: e265 :: e266 :: e267 :: e268 :: e269 :: e270 :: e271 :: e272 :: e273 :: e274 :: e275 :: e276 :: e277 :: e278 :: e279 :: e280 :: e281 :: [])), []⟩ w') :
    Code.wp Tryd.prog (shaLoop 3) Q0 ⟨(List.toArray (e0 :: e1 :: e2 :: e3 :: .slice (some ⟨b1, o1, none⟩) L c' :: e5 :: e6 :: e7 :: .int .i64 k :: .slice (some ⟨gw, 0, none⟩) 64 64 :: .int .i64 0 :: e11 :: e12 :: e13 :: e14 :: e15 :: e16 :: e17 :: e18 :: e19 :: e20 :: e21 :: e22 :: e23 :: e24 :: e25 :: e26 :: e27 :: e28 :: e29 :: e30 :: e31 :: e32 :: e33 :: e34 :: e35 :: e36 :: e37 :: e38 :: e39 :: e40 :: e41 :: e42 :: e43 :: e44 :: e45 :: e46 :: e47 :: e48 :: e49 :: e50 :: e51 :: e52 :: e53 :: e54 :: e55 :: e56 :: e57 :: e58 :: e59 :: e60 :: e61 :: e62 :: e63 :: e64 :: e65 :: e66 :: e67 :: e68 :: e69 :: e70 :: e71 :: e72 :: e73 :: e74 :: e75 :: e76 :: e77 :: e78 :: e79 :: e80 :: e81 :: e82 :: e83 :: e84 :: e85 :: e86 :: e87 :: e88 :: e89 :: e90 :: e91 :: e92 :: e93 :: e94 :: e95 :: e96 :: e97 :: e98 :: e99 :: e100 :: e101 :: e102 :: e103 :: e104 :: e105 :: e106 :: e107 :: e108 :: e109 :: e110 :: e111 :: e112 :: e113 :: e114 :: e115 :: e116 :: e117 :: e118 :: e119 :: e120 :: e121 :: e122 :: e123 :: e124 :: e125 :: e126 :: e127 :: e128 :: e129 :: e130 :: e131 :: e132 :: e133 :: e134 :: e135 :: e136 :: e137 :: e138 :: e139 :: e140 :: e141 :: e142 :: e143 :: e144 :: e145 :: e146 :: e147 :: e148 :: e149 :: e150 :: e151 :: e152 :: e153 :: e154 :: e155 :: e156 :: e157 :: e158 :: e159 :: e160 :: e161 :: e162 :: e163 :: e164 :: e165 :: e166 :: e167 :: e168 :: e169 :: e170 :: e171 :: e172 :: e173 :: e174 :: e175 :: e176 :: e177 :: e178 :: e179 :: e180 :: e181 :: e182 :: e183 :: e184 :: e185 :: e186 :: e187 :: e188 :: e189 :: e190 :: e191 :: e192 :: e193 :: e194 :: e195 :: e196 :: e197 :: e198 :: e199 :: e200 :: e201 :: e202 :: e203 :: e204 :: e205 :: e206 :: e207 :: e208 :: e209 :: e210 :: e211 :: e212 :: e213 :: e214 :: e215 :: e216 :: e217 :: e218 :: e219 :: e220 :: e221 :: e222 :: e223 :: e224 :: e225 :: e226 :: e227 :: e228 :: e229 :: e230 :: e231 :: e232 :: e233 :: e234 :: e235 :: e236 :: e237 :: e238 :: e239 :: e240 :: e241 :: e242 :: e243 :: e244 :: e245 :: e246 :: e247 :: e248 :: e249 :: e250 :: e251 :: e252 :: e253 :: e254 :: e255 :: e256 :: e257 :: e258 :: e259 :: e260 :: e261 :: e262 :: e263 :: e264 :: e265 :: e266 :: e267 :: e268 :: e269 :: e270 :: e271 :: e272 :: e273 :: e274 :: e275 :: e276 :: e277 :: e278 :: e279 :: e280 :: e281 :: [])), []⟩ w1 := by
  have HC := Lib.hid hcell
  have HB := Lib.hid hbl
  have HX := Lib.hid hexit
  clear hcell hbl hexit
  conv => arg 2; whnf
  go_loopw [10] (SchedR B H L c' (some ⟨b1, o1, none⟩) xs w g2 gh gk gw) (fun i _ => 64 - (intOf i).toNat)
  case atStart => exact ⟨0, by omega, rfl, hw0, st1⟩
  case round =>
    clear hw0 st1
    obtain ⟨t, ht, rfl, hw, st⟩ := hrel
    have hsl := Lib.hid (sched_length B t)
    have HWL := Lib.hid (fil_length (n := 64) (show (sched B t).length ≤ 64 by rw [sched_length]; exact ht))
    by_cases hlt : t < 64
    · have hst : ∃ old, wr.cell? ⟨gw, t, none⟩ = some old := by
        have hlk : t < (wu (fil (sched B t) 64)).toArray.size := by have := HWL.out; simp [wu]; omega
        rw [hw.cell]; exact ⟨_, Array.getElem?_eq_getElem hlk⟩
      obtain ⟨old, hold⟩ := hst
      have hfz := hw.frozen t
      by_cases h16 : t < 16
      · have hc4 := HC.out wr st.row
        have c0 := hc4 (4 * t) (by omega)
        have c1 := hc4 (4 * t + 1) (by omega)
        have c2 := hc4 (4 * t + 2) (by omega)
        have c3 := hc4 (4 * t + 3) (by omega)
        clear hc4
        obtain ⟨x0, hx0⟩ : ∃ x, x = B.getD (4 * t) 0 := ⟨_, rfl⟩
        obtain ⟨x1, hx1⟩ : ∃ x, x = B.getD (4 * t + 1) 0 := ⟨_, rfl⟩
        obtain ⟨x2, hx2⟩ : ∃ x, x = B.getD (4 * t + 2) 0 := ⟨_, rfl⟩
        obtain ⟨x3, hx3⟩ : ∃ x, x = B.getD (4 * t + 3) 0 := ⟨_, rfl⟩
        rw [← hx0] at c0
        rw [← hx1] at c1
        rw [← hx2] at c2
        rw [← hx3] at c3
        have HX := Lib.hid (And.intro hx0 (And.intro hx1 (And.intro hx2 hx3)))
        clear hx0 hx1 hx2 hx3
        go_wp2
        obtain ⟨p, hp⟩ : ∃ p : Nat, (k : Int) + 4 * (t : Int) = (p : Int) := ⟨k + 4 * t, by omega⟩
        have hp' : k + 4 * t = p := by omega
        rw [hp]
        rw [show k + 4 * t = p from hp'] at c0
        rw [show k + (4 * t + 1) = p + 1 by omega] at c1
        rw [show k + (4 * t + 2) = p + 2 by omega] at c2
        rw [show k + (4 * t + 3) = p + 3 by omega] at c3
        have p0 : (0 : Int) ≤ (p : Int) := by omega
        have p1 : (0 : Int) ≤ (p : Int) + 1 := by omega
        have p2 : (0 : Int) ≤ (p : Int) + 2 := by omega
        have p3 : (0 : Int) ≤ (p : Int) + 3 := by omega
        have q0 : (p : Int) < (L : Int) := by omega
        have q1 : (p : Int) + 1 < (L : Int) := by omega
        have q2 : (p : Int) + 2 < (L : Int) := by omega
        have q3 : (p : Int) + 3 < (L : Int) := by omega
        have n1 : ((p : Int) + 1).toNat = p + 1 := by omega
        have n2 : ((p : Int) + 2).toNat = p + 2 := by omega
        have n3 : ((p : Int) + 3).toNat = p + 3 := by omega
        have j0 : (0 : Int) ≤ (t : Int) := by omega
        have j1 : (t : Int) < 64 := by omega
        have hne : ¬ b1 = gw := by
          have := hw.cell t
          intro e
          subst e
          have h1 := (st.row.ne_bk hw (by decide))
          exact h1 rfl
        have hno : ¬ some b1 = some gw := by intro h; injection h with h; exact hne h
        have r1 : IntKind.i64.wrap ((p : Int) + 1) = (p : Int) + 1 := IntWalk.i64_in _ (by omega)
        have r2 : IntKind.i64.wrap ((p : Int) + 2) = (p : Int) + 2 := IntWalk.i64_in _ (by omega)
        have r3 : IntKind.i64.wrap ((p : Int) + 3) = (p : Int) + 3 := IntWalk.i64_in _ (by omega)
        have HP := Lib.hid (And.intro hp hp')
        clear hp hp'
        go_region_held3 (fun w' => w'.cell? ⟨b1, o1 + p, none⟩ = some (.int .u8 x0) ∧ w'.cell? ⟨b1, o1 + (p + 1), none⟩ = some (.int .u8 x1) ∧ w'.cell? ⟨b1, o1 + (p + 2), none⟩ = some (.int .u8 x2) ∧ w'.cell? ⟨b1, o1 + (p + 3), none⟩ = some (.int .u8 x3))
          (first | exact ⟨c0, c1, c2, c3⟩ | exact ⟨set_cell hne c0, set_cell hne c1, set_cell hne c2, set_cell hne c3⟩) (fail)
        clear r1 r2 r3 n1 n2 n3
        go_wp2
        go_roundw
        case rel =>
          refine ⟨t + 1, by omega, by go_num, ?_, (st.grown hw (grown_setCell _ _ _ _) nw1 nw2 nw3 nw4).drewN 1⟩
          have := hw.set t (.int .u32 (word4 x0 x1 x2 x3))
          have hs := fil_set (n := 64) (show (sched B t).length < 64 by rw [sched_length]; omega) (word4 x0 x1 x2 x3)
          rw [sched_length] at hs
          rw [hs] at this
          have e : sched B (t + 1) = sched B t ++ [word4 x0 x1 x2 x3] := by
            rw [sched, if_pos h16, HX.out.1, HX.out.2.1, HX.out.2.2.1, HX.out.2.2.2]
          rw [e]; exact this
        case measure => simp [intOf]; omega
      · have h16' : 16 ≤ t := by omega
        have hcell : ∀ j : Nat, j < t → wr.cell? ⟨gw, j, none⟩ = some (.int .u32 ((sched B t).getD j 0)) := fun j hj => by
          rw [hw.cell, wu_getElem? _ _ (by rw [HWL.out]; omega), fil_getD (by rw [hsl.out]; exact hj)]
        have d2 := hcell (t - 2) (by omega)
        have d7 := hcell (t - 7) (by omega)
        have d15 := hcell (t - 15) (by omega)
        have d16 := hcell (t - 16) (by omega)
        clear hcell
        obtain ⟨x2, hx2⟩ : ∃ x, x = (sched B t).getD (t - 2) 0 := ⟨_, rfl⟩
        obtain ⟨x7, hx7⟩ : ∃ x, x = (sched B t).getD (t - 7) 0 := ⟨_, rfl⟩
        obtain ⟨x15, hx15⟩ : ∃ x, x = (sched B t).getD (t - 15) 0 := ⟨_, rfl⟩
        obtain ⟨x16, hx16⟩ : ∃ x, x = (sched B t).getD (t - 16) 0 := ⟨_, rfl⟩
        rw [← hx2] at d2
        rw [← hx7] at d7
        rw [← hx15] at d15
        rw [← hx16] at d16
        have HX := Lib.hid (And.intro hx2 (And.intro hx7 (And.intro hx15 hx16)))
        clear hx2 hx7 hx15 hx16
        have n2 : ((t : Int) - 2).toNat = t - 2 := by omega
        have n7 : ((t : Int) - 7).toNat = t - 7 := by omega
        have n15 : ((t : Int) - 15).toNat = t - 15 := by omega
        have n16 : ((t : Int) - 16).toNat = t - 16 := by omega
        have p2 : (0 : Int) ≤ (t : Int) - 2 := by omega
        have p7 : (0 : Int) ≤ (t : Int) - 7 := by omega
        have p15 : (0 : Int) ≤ (t : Int) - 15 := by omega
        have p16 : (0 : Int) ≤ (t : Int) - 16 := by omega
        have z2 : (2 : Int) ≤ (t : Int) := by omega
        have z7 : (7 : Int) ≤ (t : Int) := by omega
        have z15 : (15 : Int) ≤ (t : Int) := by omega
        have z16 : (16 : Int) ≤ (t : Int) := by omega
        have m2 : (t : Int) - 2 < 64 := by omega
        have m7 : (t : Int) - 7 < 64 := by omega
        have m15 : (t : Int) - 15 < 64 := by omega
        have m16 : (t : Int) - 16 < 64 := by omega
        have w2 : IntKind.i64.wrap ((t : Int) - 2) = (t : Int) - 2 := by rw [IntKind.wrap_i64]; omega
        have w7 : IntKind.i64.wrap ((t : Int) - 7) = (t : Int) - 7 := by rw [IntKind.wrap_i64]; omega
        have w15 : IntKind.i64.wrap ((t : Int) - 15) = (t : Int) - 15 := by rw [IntKind.wrap_i64]; omega
        have w16 : IntKind.i64.wrap ((t : Int) - 16) = (t : Int) - 16 := by rw [IntKind.wrap_i64]; omega
        go_wp2
        go_region_held3 (fun w' => w'.cell? ⟨gw, t - 7, none⟩ = some (.int .u32 x7) ∧ w'.cell? ⟨gw, t - 16, none⟩ = some (.int .u32 x16))
          (first | exact ⟨d7, d16⟩ | exact ⟨set_cell' (by omega) d7, set_cell' (by omega) d16⟩)
          (first
            | (go_at_call 135; (with_reducible refine (right_any _ _ _ (by omega) (by omega)).mono ?_); rintro e w' ⟨rfl, rfl⟩))
        clear w2 w7 w15 w16 n2 n7 n15 n16
        go_wp2
        go_roundw
        case rel =>
          refine ⟨t + 1, by omega, by go_num, ?_, (st.grown hw (grown_setCell _ _ _ _) nw1 nw2 nw3 nw4).drewN 1⟩
          have hnw : nextWord (sched B t) t = (((x16 + sg0 x15) % 4294967296 + x7) % 4294967296 + sg1 x2) % 4294967296 := by
            rw [nextWord, ← HX.out.1, ← HX.out.2.1, ← HX.out.2.2.1, ← HX.out.2.2.2]; omega
          have := hw.set t (.int .u32 (nextWord (sched B t) t))
          have hs := fil_set (n := 64) (show (sched B t).length < 64 by rw [sched_length]; omega) (nextWord (sched B t) t)
          rw [sched_length] at hs
          rw [hs, hnw] at this
          have e : sched B (t + 1) = sched B t ++ [nextWord (sched B t) t] := by
            rw [sched, if_neg (by omega)]
          rw [e, hnw]; exact this
        case measure => simp [intOf]; omega
    · obtain rfl : t = 64 := by omega
      rw [fil_full hsl.out] at hw
      go_wp2_with fail
      exact HX.out _ _ _ _ _ _ _ _ _ _ _ _ _ _ _ _ _ _ _ _ _ _ _ _ _ _ _ _ _ _ _ _ _ _ _ _ _ _ _ _ _ _ _ _ _ _ _ _ _ _ _ _ _ _ _ _ _ _ _ _ _ _ _ _ _ _ _ _ _ _ _ _ _ _ _ _ _ _ _ _ _ _ _ _ _ _ _ _ hw st
end Go.Proofs.YtjfeehoflahblaaDoor
