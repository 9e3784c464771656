/- The rounds of a chunk, in the reference's digest: their loop. Conditions: eight words. -/
import Derived.Test.YtjfeehoflahblaaDoorShaA
namespace Go.Proofs.YtjfeehoflahblaaDoor
open Go.RowKit

set_option maxRecDepth 1000000 in
set_option maxHeartbeats 40000000 in
theorem rounds_loop {e0 e1 e2 e3 e4 e5 e6 e8 e10 e11 e12 e13 e16 e17 e18 e19 e20 e21 e22 e23 e24 e25 e26 e27 e28 e29 e30 e31 e32 e33 e34 e35 e36 e37 e38 e39 e40 e41 e42 e43 e44 e45 e46 e47 e48 e49 e50 e51 e52 e53 e54 e55 e56 e57 e58 e59 e60 e61 e62 e63 e64 e65 e66 e67 e68 e69 e70 e71 e72 e73 e74 e75 e76 e77 e78 e79 e80 e81 e82 e83 e84 e85 e86 e87 e88 e89 e90 e91 e92 e93 e94 e95 e96 e97 e98 e99 e100 e101 e102 e103 e104 e105 e106 e107 e108 e109 e110 e111 e112 e113 e114 e115 e116 e117 e118 e119 e120 e121 e122 e123 e124 e125 e126 e127 e128 e129 e130 e131 e132 e133 e134 e135 e136 e137 e138 e139 e140 e141 e142 e143 e144 e145 e146 e147 e148 e149 e150 e151 e152 e153 e154 e155 e156 e157 e158 e159 e160 e161 e162 e163 e164 e165 e166 e167 e168 e169 e170 e171 e172 e173 e174 e175 e176 e177 e178 e179 e180 e181 e182 e183 e184 e185 e186 e187 e188 e189 e190 e191 e192 e193 e194 e195 e196 e197 e198 e199 e200 e201 e202 e203 e204 e205 e206 e207 e208 e209 e210 e211 e212 e213 e214 e215 e216 e217 e218 e219 e220 e221 e222 e223 e224 e225 e226 e227 e228 e229 e230 e231 e232 e233 e234 e235 e236 e237 e238 e239 e240 e241 e242 e243 e244 e245 e246 e247 e248 e249 e250 e251 e252 e253 e254 e255 e256 e257 e258 e259 e260 e261 e262 e263 e264 e265 e266 e267 e268 e269 e270 e271 e272 e273 e274 e275 e276 e277 e278 e279 e280 e281 : Value} {Q0 : Exit → Act → World → Prop} {w w1 : World} {b1 o1 L c' g2 gh gk gw gv cv : Nat} {B H xs : List Int} (hHl : H.length = 8)
    (hv8 : 8 ≤ cv) (ngv : gv ≠ gh) (hrv : Rd w1 w1.heap.size 1 (some ⟨gv, 0, none⟩) 8 (wu (rnds H B 0))) (hwv : Bk w1 gw 22 (wu (sched B 64)).toArray) (stv : Stay H L c' (some ⟨b1, o1, none⟩) xs w g2 gh gk w1)
    (hexit : ∀ (u16 u17 u18 u19 u147 u148 u149 u150 u151 u152 u153 u154 u155 u156 u157 u158 u159 u160 u161 u162 u163 u164 u165 u166 u167 u168 u169 u170 u171 u172 u173 u174 u175 u176 u177 u178 u179 u180 u181 u182 u183 u184 u185 u186 u187 u188 u189 u190 u191 u192 u193 u194 u195 u196 u197 u198 u199 u200 u201 u202 u203 u204 u205 u206 u207 u208 u209 u210 u211 u212 u213 u214 u215 u216 u217 u218 u219 u220 u221 u222 u223 u224 u225 u226 u227 u228 u229 u230 u231 u232 u233 u234 u235 u236 u237 u238 u239 u240 u241 u242 u243 u244 u245 u246 : Value) (gv cv : Nat) (w' : World), 8 ≤ cv → gv ≠ gh → Rd w' w'.heap.size 1 (some ⟨gv, 0, none⟩) 8 (wu (rnds H B 64)) → Stay H L c' (some ⟨b1, o1, none⟩) xs w g2 gh gk w' → Q0 (.exit 8) ⟨(List.toArray (e0 :: e1 :: e2 :: e3 :: e4 :: e5 :: e6 :: .slice (some ⟨gk, 0, none⟩) 64 64 :: e8 :: .slice (some ⟨gw, 0, none⟩) 64 64 :: e10 :: e11 :: e12 :: e13 :: .slice (some ⟨gv, 0, none⟩) 8 cv :: .int .i64 64 :: u16 :: u17 :: u18 :: u19 :: e20 :: e21 :: e22 :: e23 :: e24 :: e25 :: e26 :: e27 :: e28 :: e29 :: e30 :: e31 :: e32 :: e33 :: e34 :: e35 :: e36 :: e37 :: e38 :: e39 :: e40 :: e41 :: e42 :: e43 :: e44 :: e45 :: e46 :: e47 :: e48 :: e49 :: e50 :: e51 :: e52 :: e53 :: e54 :: e55 :: e56 :: e57 :: e58 :: e59 :: e60 :: e61 :: e62 :: e63 :: e64 :: e65 :: e66 :: e67 :: e68 :: e69 :: e70 :: e71 :: e72 :: e73 :: e74 :: e75 :: e76 :: e77 :: e78 :: e79 :: e80 :: e81 :: e82 :: e83 :: e84 :: e85 :: e86 :: e87 :: e88 :: e89 :: e90 :: e91 :: e92 :: e93 :: e94 :: e95 :: e96 :: e97 :: e98 :: e99 :: e100 :: e101 :: e102 :: e103 :: e104 :: e105 :: e106 :: e107 :: e108 :: e109 :: e110 :: e111 :: e112 :: e113 :: e114 :: e115 :: e116 :: e117 :: e118 :: e119 :: e120 :: e121 :: e122 :: e123 :: e124 :: e125 :: e126 :: e127 :: e128 :: e129 :: e130 :: e131 :: e132 :: e133 :: e134 :: e135 :: e136 :: e137 :: e138 :: e139 :: e140 :: e141 :: e142 :: e143 :: e144 :: e145 :: e146 :: u147 :: u148 :: u149 :: u150 :: u151 :: u152 :: u153 :: u154 :: u155 :: u156 :: u157 :: u158 :: u159 :: u160 :: u161 :: u162 :: u163 :: u164 :: u165 :: u166 :: u167 :: u168 :: u169 :: u170 :: u171 :: u172 :: u173 :: u174 :: u175 :: u176 :: u177 :: u178 :: u179 :: u180 :: u181 :: u182 :: u183 :: u184 :: u185 :: u186 :: u187 :: u188 :: u189 :: u190 :: u191 :: u192 :: u193 :: u194 :: u195 :: u196 :: u197 :: u198 :: u199 :: u200 :: u201 :: u202 :: u203 :: u204 :: u205 :: u206 :: u207 :: u208 :: u209 :: u210 :: u211 :: u212 :: u213 :: u214 :: u215 :: u216 :: u217 :: u218 :: u219 :: u220 :: u221 :: u222 :: u223 :: u224 :: u225 :: u226 :: u227 :: u228 :: u229 :: u230 :: u231 :: u232 :: u233 :: u234 :: u235 :: u236 :: u237 :: u238 :: u239 :: u240 :: u241 :: u242 :: u243 :: u244 :: u245 :: u246 :: e247 :: e248 :: e249 :: e250 :: e251 :: e252 :: e253 :: e254 :: e255 :: e256 :: e257 :: e258 :: e259 :: e260 :: e261 :: e262 :: e263 :: e264 :: e265 :: e266 :: e267 :: e268 :: e269 :: e270 :: e271 :: e272 :: e273 :: e274 :: e275 :: e276 :: e277 :: e278 :: e279 :: e280 :: e281 :: [])), []⟩ w') :
    Code.wp Tryd.prog (shaLoop 4) Q0 ⟨(List.toArray (e0 :: e1 :: e2 :: e3 :: e4 :: e5 :: e6 :: .slice (some ⟨gk, 0, none⟩) 64 64 :: e8 :: .slice (some ⟨gw, 0, none⟩) 64 64 :: e10 :: e11 :: e12 :: e13 :: .slice (some ⟨gv, 0, none⟩) 8 cv :: .int .i64 0 :: e16 :: e17 :: e18 :: e19 :: e20 :: e21 :: e22 :: e23 :: e24 :: e25 :: e26 :: e27 :: e28 :: e29 :: e30 :: e31 :: e32 :: e33 :: e34 :: e35 :: e36 :: e37 :: e38 :: e39 :: e40 :: e41 :: e42 :: e43 :: e44 :: e45 :: e46 :: e47 :: e48 :: e49 :: e50 :: e51 :: e52 :: e53 :: e54 :: e55 :: e56 :: e57 :: e58 :: e59 :: e60 :: e61 :: e62 :: e63 :: e64 :: e65 :: e66 :: e67 :: e68 :: e69 :: e70 :: e71 :: e72 :: e73 :: e74 :: e75 :: e76 :: e77 :: e78 :: e79 :: e80 :: e81 :: e82 :: e83 :: e84 :: e85 :: e86 :: e87 :: e88 :: e89 :: e90 :: e91 :: e92 :: e93 :: e94 :: e95 :: e96 :: e97 :: e98 :: e99 :: e100 :: e101 :: e102 :: e103 :: e104 :: e105 :: e106 :: e107 :: e108 :: e109 :: e110 :: e111 :: e112 :: e113 :: e114 :: e115 :: e116 :: e117 :: e118 :: e119 :: e120 :: e121 :: e122 :: e123 :: e124 :: e125 :: e126 :: e127 :: e128 :: e129 :: e130 :: e131 :: e132 :: e133 :: e134 :: e135 :: e136 :: e137 :: e138 :: e139 :: e140 :: e141 :: e142 :: e143 :: e144 :: e145 :: e146 :: e147 :: e148 :: e149 :: e150 :: e151 :: e152 :: e153 :: e154 :: e155 :: e156 :: e157 :: e158 :: e159 :: e160 :: e161 :: e162 :: e163 :: e164 :: e165 :: e166 :: e167 :: e168 :: e169 :: e170 :: e171 :: e172 :: e173 :: e174 :: e175 :: e176 :: e177 :: e178 :: e179 :: e180 :: e181 :: e182 :: e183 :: e184 :: e185 :: e186 :: e187 :: e188 :: e189 :: e190 :: e191 :: e192 :: e193 :: e194 :: e195 :: e196 :: e197 :: e198 :: e199 :: e200 :: e201 :: e202 :: e203 :: e204 :: e205 :: e206 :: e207 :: e208 :: e209 :: e210 :: e211 :: e212 :: e213 :: e214 :: e215 :: e216 :: e217 :: e218 :: e219 :: e220 :: e221 :: e222 :: e223 :: e224 :: e225 :: e226 :: e227 :: e228 :: e229 :: e230 :: e231 :: e232 :: e233 :: e234 :: e235 :: e236 :: e237 :: e238 :: e239 :: e240 :: e241 :: e242 :: e243 :: e244 :: e245 :: e246 :: e247 :: e248 :: e249 :: e250 :: e251 :: e252 :: e253 :: e254 :: e255 :: e256 :: e257 :: e258 :: e259 :: e260 :: e261 :: e262 :: e263 :: e264 :: e265 :: e266 :: e267 :: e268 :: e269 :: e270 :: e271 :: e272 :: e273 :: e274 :: e275 :: e276 :: e277 :: e278 :: e279 :: e280 :: e281 :: [])), []⟩ w1 := by
  have HH := Lib.hid (And.intro trivial hHl)
  have HE := Lib.hid hexit
  have hgv := hv8
  clear hexit hHl
  conv => arg 2; whnf
  go_loopw [14, 15] (RoundR B H L c' (some ⟨b1, o1, none⟩) xs w g2 gh gk gw) (fun _ i _ => 64 - (intOf i).toNat)
  case atStart => exact ⟨0, gv, cv, by omega, rfl, rfl, hv8, ngv, hrv, hwv, stv⟩
  case round =>
    clear stv hwv hrv ngv hgv hv8
    obtain ⟨t, gv, cv, ht, rfl, rfl, hv8, ngv, hrv, hw, st⟩ := hrel
    by_cases hlt : t < 64
    · obtain ⟨x0, x1, x2, x3, x4, x5, x6, x7, hx⟩ := list8 (rnds_length H B HH.out.2 t)
      have HX := Lib.hid hx
      rw [hx] at hrv
      clear hx
      have c0 : wr.cell? ⟨gv, 0, none⟩ = some (.int .u32 x0) := hrv.cells 0 _ rfl
      have c1 : wr.cell? ⟨gv, 1, none⟩ = some (.int .u32 x1) := hrv.cells 1 _ rfl
      have c2 : wr.cell? ⟨gv, 2, none⟩ = some (.int .u32 x2) := hrv.cells 2 _ rfl
      have c3 : wr.cell? ⟨gv, 3, none⟩ = some (.int .u32 x3) := hrv.cells 3 _ rfl
      have c4 : wr.cell? ⟨gv, 4, none⟩ = some (.int .u32 x4) := hrv.cells 4 _ rfl
      have c5 : wr.cell? ⟨gv, 5, none⟩ = some (.int .u32 x5) := hrv.cells 5 _ rfl
      have c6 : wr.cell? ⟨gv, 6, none⟩ = some (.int .u32 x6) := hrv.cells 6 _ rfl
      have c7 : wr.cell? ⟨gv, 7, none⟩ = some (.int .u32 x7) := hrv.cells 7 _ rfl
      have cw : wr.cell? ⟨gw, t, none⟩ = some (.int .u32 ((sched B 64).getD t 0)) := by rw [hw.cell, wu_getElem? _ _ (by rw [sched_length]; exact hlt)]
      have ck : wr.cell? ⟨gk, t, none⟩ = some (.int .u32 (shaK.getD t 0)) := by rw [st.k.cell, wu_getElem? _ _ (by exact hlt)]
      obtain ⟨kw, hkw⟩ : ∃ x, x = (sched B 64).getD t 0 := ⟨_, rfl⟩
      obtain ⟨kk, hkk⟩ : ∃ x, x = shaK.getD t 0 := ⟨_, rfl⟩
      rw [← hkw] at cw
      rw [← hkk] at ck
      have HW := Lib.hid hkw
      have HK := Lib.hid hkk
      clear hkw hkk
      have j0 : (0 : Int) ≤ (t : Int) := by omega
      have j1 : (t : Int) < 64 := by omega
      go_wp2_with fail
      go_quiet ((go_at_call 135; refine (right_any _ _ _ ?_ ?_).mono (fun _ _ h => ⟨h.1, _, h.2.symm⟩) <;> omega))
      go_wp2_with fail
      go_quiet ((go_at_call 135; refine (right_any _ _ _ ?_ ?_).mono (fun _ _ h => ⟨h.1, _, h.2.symm⟩) <;> omega))
      go_wp2_with fail
      go_region_held3 (fun w' => w'.cell? ⟨gv, 0, none⟩ = some (.int .u32 x0) ∧ w'.cell? ⟨gv, 1, none⟩ = some (.int .u32 x1) ∧ w'.cell? ⟨gv, 2, none⟩ = some (.int .u32 x2) ∧ w'.cell? ⟨gv, 3, none⟩ = some (.int .u32 x3) ∧ w'.cell? ⟨gv, 4, none⟩ = some (.int .u32 x4) ∧ w'.cell? ⟨gv, 5, none⟩ = some (.int .u32 x5) ∧ w'.cell? ⟨gv, 6, none⟩ = some (.int .u32 x6))
        (go_keep) (fail)
      go_wp2
      go_roundw
      case rel =>
        refine ⟨t + 1, _, 8, by omega, by go_num, rfl, by omega, ?_, ?_, (hw.drewN _).alloc _, (st.drewN _).same ((Below.refl _ _).alloc (Nat.le_refl _) _)⟩
        · have := st.h.lt; omega
        · rw [rnds, rndL, HX.out, ← HW.out, ← HK.out]
          refine Rd.more ?_ (show wr.heap.size + 1 ≤ _ by simp)
          exact Rd.new (wr.drewN _) (wu (rnd x0 x1 x2 x3 x4 x5 x6 x7 kk kw)).toArray 22 8 1 rfl
      case measure => simp [intOf]; omega
    · obtain rfl : t = 64 := by omega
      go_wp2_with fail
      exact HE.out _ _ _ _ _ _ _ _ _ _ _ _ _ _ _ _ _ _ _ _ _ _ _ _ _ _ _ _ _ _ _ _ _ _ _ _ _ _ _ _ _ _ _ _ _ _ _ _ _ _ _ _ _ _ _ _ _ _ _ _ _ _ _ _ _ _ _ _ _ _ _ _ _ _ _ _ _ _ _ _ _ _ _ _ _ _ _ _ _ _ _ _ _ _ _ _ _ _ _ _ _ _ _ _ _ _ _ hv8 ngv hrv st
end Go.Proofs.YtjfeehoflahblaaDoor
