/-
  DERIVED. GIVEN WITH THE SEED: THE PROGRAM's TIES (one call each: nine closed facts by the kernel) AND EACH ROW's TIE, after the 31st guide's Derived/Test/Toyas{Tie, Card}.lean. No idea stands in it: it is a product of the set-up. Laid BY PROGRAM, IN A SANDBOX (cutbox-door.mjs). By AI agents, Wed Nov 11 2026. No macro, syntax, notation, axiom, sorry.
-/
import Derived.Test.YtjfeehoflahblaaDoorRows
import Derived.LaidByTextLater
import Derived.SevenTiedAt
import Derived.LaidSub
import Derived.LaidOnce
namespace Go.Proofs.YtjfeehoflahblaaDoor
open Go
set_option maxRecDepth 100000
theorem seatTie1 : Tryd.prog.laidByTextLater [("sargasso/api.ErrEnd", Rows.laid_sargasso_api_ErrEnd), ("sargasso/api.ErrShape", Rows.laid_sargasso_api_ErrShape), ("sargasso/api.ErrLong", Rows.laid_sargasso_api_ErrLong), ("sargasso/api.ErrMany", Rows.laid_sargasso_api_ErrMany), ("sargasso/api.ErrValue", Rows.laid_sargasso_api_ErrValue), ("sargasso/api.ErrTwice", Rows.laid_sargasso_api_ErrTwice), ("sargasso/api.ErrBase", Rows.laid_sargasso_api_ErrBase), ("sargasso/api.ErrRoot", Rows.laid_sargasso_api_ErrRoot), ("sargasso/api.ErrKnown", Rows.laid_sargasso_api_ErrKnown), ("sargasso/api.ErrParent", Rows.laid_sargasso_api_ErrParent), ("sargasso/api.ErrInvalid", Rows.laid_sargasso_api_ErrInvalid), ("sargasso/api.ErrTime", Rows.laid_sargasso_api_ErrTime), ("sargasso/api.ErrMissing", Rows.laid_sargasso_api_ErrMissing), ("sargasso/api.ErrKey", Rows.laid_sargasso_api_ErrKey), ("sargasso/api.ErrYoung", Rows.laid_sargasso_api_ErrYoung), ("sargasso/api.ErrEarly", Rows.laid_sargasso_api_ErrEarly), ("sargasso/api.ErrLess", Rows.laid_sargasso_api_ErrLess), ("sargasso/api.ErrReward", Rows.laid_sargasso_api_ErrReward), ("sargasso/api.ErrClash", Rows.laid_sargasso_api_ErrClash), ("sargasso/api.ErrLimit", Rows.laid_sargasso_api_ErrLimit), ("sargasso/api.ErrFull", Rows.laid_sargasso_api_ErrFull), ("sargasso/api.ErrRange", Rows.laid_sargasso_api_ErrRange), ("sargasso/api.ErrNone", Rows.laid_sargasso_api_ErrNone), ("sargasso/api.ErrWord", Rows.laid_sargasso_api_ErrWord), ("sargasso/api.ErrNumber", Rows.laid_sargasso_api_ErrNumber)] [.sentinel, .sentinel, .sentinel, .sentinel, .sentinel, .sentinel, .sentinel, .sentinel, .sentinel, .sentinel, .sentinel, .sentinel, .sentinel, .sentinel, .sentinel, .sentinel, .sentinel, .sentinel, .sentinel, .sentinel, .sentinel, .sentinel, .sentinel, .sentinel, .sentinel] true :=
  Program.laidByTextLater_by_one 484 8 2 (by kernel_rfl) (by kernel_rfl) (by kernel_rfl) (by kernel_rfl) (by kernel_rfl) (by kernel_rfl) (fun _ _ => by kernel_rfl)
theorem noOwnUnsafe : Tryd.pinned.checked.prog.headLifts.contains "ownunsafe" = false := by kernel_rfl
theorem tie : Tryd.prog.laidByTextLater [("sargasso/api.ErrEnd", Rows.laid_sargasso_api_ErrEnd), ("sargasso/api.ErrShape", Rows.laid_sargasso_api_ErrShape), ("sargasso/api.ErrLong", Rows.laid_sargasso_api_ErrLong), ("sargasso/api.ErrMany", Rows.laid_sargasso_api_ErrMany), ("sargasso/api.ErrValue", Rows.laid_sargasso_api_ErrValue), ("sargasso/api.ErrTwice", Rows.laid_sargasso_api_ErrTwice), ("sargasso/api.ErrBase", Rows.laid_sargasso_api_ErrBase), ("sargasso/api.ErrRoot", Rows.laid_sargasso_api_ErrRoot), ("sargasso/api.ErrKnown", Rows.laid_sargasso_api_ErrKnown), ("sargasso/api.ErrParent", Rows.laid_sargasso_api_ErrParent), ("sargasso/api.ErrInvalid", Rows.laid_sargasso_api_ErrInvalid), ("sargasso/api.ErrTime", Rows.laid_sargasso_api_ErrTime), ("sargasso/api.ErrMissing", Rows.laid_sargasso_api_ErrMissing), ("sargasso/api.ErrKey", Rows.laid_sargasso_api_ErrKey), ("sargasso/api.ErrYoung", Rows.laid_sargasso_api_ErrYoung), ("sargasso/api.ErrEarly", Rows.laid_sargasso_api_ErrEarly), ("sargasso/api.ErrLess", Rows.laid_sargasso_api_ErrLess), ("sargasso/api.ErrReward", Rows.laid_sargasso_api_ErrReward), ("sargasso/api.ErrClash", Rows.laid_sargasso_api_ErrClash), ("sargasso/api.ErrLimit", Rows.laid_sargasso_api_ErrLimit), ("sargasso/api.ErrFull", Rows.laid_sargasso_api_ErrFull), ("sargasso/api.ErrRange", Rows.laid_sargasso_api_ErrRange), ("sargasso/api.ErrNone", Rows.laid_sargasso_api_ErrNone), ("sargasso/api.ErrWord", Rows.laid_sargasso_api_ErrWord), ("sargasso/api.ErrNumber", Rows.laid_sargasso_api_ErrNumber)] [.sentinel, .sentinel, .sentinel, .sentinel, .sentinel, .sentinel, .sentinel, .sentinel, .sentinel, .sentinel, .sentinel, .sentinel, .sentinel, .sentinel, .sentinel, .sentinel, .sentinel, .sentinel, .sentinel, .sentinel, .sentinel, .sentinel, .sentinel, .sentinel, .sentinel] true :=
  Program.laidByTextLater.sub seatTie1 ["sargasso/api.ErrEnd", "sargasso/api.ErrShape", "sargasso/api.ErrLong", "sargasso/api.ErrMany", "sargasso/api.ErrValue", "sargasso/api.ErrTwice", "sargasso/api.ErrBase", "sargasso/api.ErrRoot", "sargasso/api.ErrKnown", "sargasso/api.ErrParent", "sargasso/api.ErrInvalid", "sargasso/api.ErrTime", "sargasso/api.ErrMissing", "sargasso/api.ErrKey", "sargasso/api.ErrYoung", "sargasso/api.ErrEarly", "sargasso/api.ErrLess", "sargasso/api.ErrReward", "sargasso/api.ErrClash", "sargasso/api.ErrLimit", "sargasso/api.ErrFull", "sargasso/api.ErrRange", "sargasso/api.ErrNone", "sargasso/api.ErrWord", "sargasso/api.ErrNumber"] (by kernel_rfl) (by kernel_rfl)
theorem txSays_row_tie : Rows.txSaysRow.laidByTextAt .later Tryd.pinned [.sentinel, .sentinel, .sentinel, .sentinel, .sentinel, .sentinel, .sentinel, .sentinel, .sentinel, .sentinel, .sentinel, .sentinel, .sentinel, .sentinel, .sentinel, .sentinel, .sentinel, .sentinel, .sentinel, .sentinel, .sentinel, .sentinel, .sentinel, .sentinel, .sentinel] true :=
  OpenClaim.laidByTextAt_later rfl rfl tie noOwnUnsafe
theorem blockKinds_row_tie : Rows.blockKindsRow.laidByTextAt .later Tryd.pinned [.sentinel, .sentinel, .sentinel, .sentinel, .sentinel, .sentinel, .sentinel, .sentinel, .sentinel, .sentinel, .sentinel, .sentinel, .sentinel, .sentinel, .sentinel, .sentinel, .sentinel, .sentinel, .sentinel, .sentinel, .sentinel, .sentinel, .sentinel, .sentinel, .sentinel] true :=
  OpenClaim.laidByTextAt_later rfl rfl tie noOwnUnsafe
theorem blockBack_row_tie : Rows.blockBackRow.laidByTextAt .later Tryd.pinned [.sentinel, .sentinel, .sentinel, .sentinel, .sentinel, .sentinel, .sentinel, .sentinel, .sentinel, .sentinel, .sentinel, .sentinel, .sentinel, .sentinel, .sentinel, .sentinel, .sentinel, .sentinel, .sentinel, .sentinel, .sentinel, .sentinel, .sentinel, .sentinel, .sentinel] true :=
  OpenClaim.laidByTextAt_later rfl rfl tie noOwnUnsafe
theorem tie2 : Tryd.prog.laidByTextLater [("sargasso/api.ErrRange", Rows.laid_sargasso_api_ErrRange)] [.sentinel] true :=
  Program.laidByTextLater.sub seatTie1 ["sargasso/api.ErrRange"] (by kernel_rfl) (by kernel_rfl)
theorem redoOrder_row_tie : Rows.redoOrderRow.laidByTextAt .later Tryd.pinned [.sentinel] true :=
  OpenClaim.laidByTextAt_later rfl rfl tie2 noOwnUnsafe
theorem redoOn_row_tie : Rows.redoOnRow.laidByTextAt .later Tryd.pinned [.sentinel] true :=
  OpenClaim.laidByTextAt_later rfl rfl tie2 noOwnUnsafe
theorem tie3 : Tryd.prog.laidByTextLater [("sargasso/api.ErrLong", Rows.laid_sargasso_api_ErrLong), ("sargasso/api.ErrMany", Rows.laid_sargasso_api_ErrMany), ("sargasso/api.ErrValue", Rows.laid_sargasso_api_ErrValue), ("sargasso/api.ErrTwice", Rows.laid_sargasso_api_ErrTwice), ("sargasso/api.ErrBase", Rows.laid_sargasso_api_ErrBase), ("sargasso/api.ErrRoot", Rows.laid_sargasso_api_ErrRoot), ("sargasso/api.ErrKey", Rows.laid_sargasso_api_ErrKey), ("sargasso/api.ErrRange", Rows.laid_sargasso_api_ErrRange)] [.sentinel, .sentinel, .sentinel, .sentinel, .sentinel, .sentinel, .sentinel, .sentinel] true :=
  Program.laidByTextLater.sub seatTie1 ["sargasso/api.ErrLong", "sargasso/api.ErrMany", "sargasso/api.ErrValue", "sargasso/api.ErrTwice", "sargasso/api.ErrBase", "sargasso/api.ErrRoot", "sargasso/api.ErrKey", "sargasso/api.ErrRange"] (by kernel_rfl) (by kernel_rfl)
theorem blockFirst_row_tie : Rows.blockFirstRow.laidByTextAt .later Tryd.pinned [.sentinel, .sentinel, .sentinel, .sentinel, .sentinel, .sentinel, .sentinel, .sentinel] true :=
  OpenClaim.laidByTextAt_later rfl rfl tie3 noOwnUnsafe
theorem blockStart_row_tie : Rows.blockStartRow.laidByTextAt .later Tryd.pinned [.sentinel, .sentinel, .sentinel, .sentinel, .sentinel, .sentinel, .sentinel, .sentinel] true :=
  OpenClaim.laidByTextAt_later rfl rfl tie3 noOwnUnsafe
theorem tie4 : Tryd.prog.laidByTextLater [("sargasso/api.ErrKnown", Rows.laid_sargasso_api_ErrKnown), ("sargasso/api.ErrParent", Rows.laid_sargasso_api_ErrParent), ("sargasso/api.ErrFull", Rows.laid_sargasso_api_ErrFull)] [.sentinel, .sentinel, .sentinel] true :=
  Program.laidByTextLater.sub seatTie1 ["sargasso/api.ErrKnown", "sargasso/api.ErrParent", "sargasso/api.ErrFull"] (by kernel_rfl) (by kernel_rfl)
theorem bestOver_row_tie : Rows.bestOverRow.laidByTextAt .later Tryd.pinned [.sentinel, .sentinel, .sentinel] true :=
  OpenClaim.laidByTextAt_later rfl rfl tie4 noOwnUnsafe
theorem bestGoes_row_tie : Rows.bestGoesRow.laidByTextAt .later Tryd.pinned [.sentinel, .sentinel, .sentinel] true :=
  OpenClaim.laidByTextAt_later rfl rfl tie4 noOwnUnsafe
theorem txSaysUpto_row_tie : Rows.txSaysUptoRow.laidByTextAt .later Tryd.pinned [.sentinel, .sentinel, .sentinel, .sentinel, .sentinel, .sentinel, .sentinel, .sentinel, .sentinel, .sentinel, .sentinel, .sentinel, .sentinel, .sentinel, .sentinel, .sentinel, .sentinel, .sentinel, .sentinel, .sentinel, .sentinel, .sentinel, .sentinel, .sentinel, .sentinel] true :=
  OpenClaim.laidByTextAt_later rfl rfl tie noOwnUnsafe
theorem redoOrderUpto_row_tie : Rows.redoOrderUptoRow.laidByTextAt .later Tryd.pinned [.sentinel] true :=
  OpenClaim.laidByTextAt_later rfl rfl tie2 noOwnUnsafe
theorem redoOnUpto_row_tie : Rows.redoOnUptoRow.laidByTextAt .later Tryd.pinned [.sentinel] true :=
  OpenClaim.laidByTextAt_later rfl rfl tie2 noOwnUnsafe
theorem blockFirstUpto_row_tie : Rows.blockFirstUptoRow.laidByTextAt .later Tryd.pinned [.sentinel, .sentinel, .sentinel, .sentinel, .sentinel, .sentinel, .sentinel, .sentinel] true :=
  OpenClaim.laidByTextAt_later rfl rfl tie3 noOwnUnsafe
theorem blockKindsUpto_row_tie : Rows.blockKindsUptoRow.laidByTextAt .later Tryd.pinned [.sentinel, .sentinel, .sentinel, .sentinel, .sentinel, .sentinel, .sentinel, .sentinel, .sentinel, .sentinel, .sentinel, .sentinel, .sentinel, .sentinel, .sentinel, .sentinel, .sentinel, .sentinel, .sentinel, .sentinel, .sentinel, .sentinel, .sentinel, .sentinel, .sentinel] true :=
  OpenClaim.laidByTextAt_later rfl rfl tie noOwnUnsafe
theorem blockStartUpto_row_tie : Rows.blockStartUptoRow.laidByTextAt .later Tryd.pinned [.sentinel, .sentinel, .sentinel, .sentinel, .sentinel, .sentinel, .sentinel, .sentinel] true :=
  OpenClaim.laidByTextAt_later rfl rfl tie3 noOwnUnsafe
theorem blockBackUpto_row_tie : Rows.blockBackUptoRow.laidByTextAt .later Tryd.pinned [.sentinel, .sentinel, .sentinel, .sentinel, .sentinel, .sentinel, .sentinel, .sentinel, .sentinel, .sentinel, .sentinel, .sentinel, .sentinel, .sentinel, .sentinel, .sentinel, .sentinel, .sentinel, .sentinel, .sentinel, .sentinel, .sentinel, .sentinel, .sentinel, .sentinel] true :=
  OpenClaim.laidByTextAt_later rfl rfl tie noOwnUnsafe
theorem bestOverUpto_row_tie : Rows.bestOverUptoRow.laidByTextAt .later Tryd.pinned [.sentinel, .sentinel, .sentinel] true :=
  OpenClaim.laidByTextAt_later rfl rfl tie4 noOwnUnsafe
theorem bestGoesUpto_row_tie : Rows.bestGoesUptoRow.laidByTextAt .later Tryd.pinned [.sentinel, .sentinel, .sentinel] true :=
  OpenClaim.laidByTextAt_later rfl rfl tie4 noOwnUnsafe
end Go.Proofs.YtjfeehoflahblaaDoor
