/- Closed facts on the whole program, which every row asks: each once. -/
import Derived.Test.YtkkagnpidfnmpaaRows
import Derived.ProofKit
import Derived.JoinedCond
namespace Go.Proofs.Ytkkagnpidfnmpaa
open Go
theorem seat_own : ownKnob Try.prog.godebug = none := by kernel_rfl
theorem seat_laid : laidOutB Try.prog = true := by kernel_rfl
theorem seat_maps : mapsRowed Try.prog = true := by kernel_rfl
theorem seat_stops : (Try.prog.stops == []) = true := by kernel_rfl
theorem seat_heard : Try.prog.stopsHeard = true := by kernel_rfl
set_option maxHeartbeats 0 in
theorem seat_enter : Try.prog.mayEnter = true := by kernel_rfl
set_option maxHeartbeats 0 in
theorem seat_lifts_ : ((Rows.factKeysRow.lifted) == Try.prog.liftsFinal) = true := by kernel_rfl
theorem seat_lifts {x : _} (h : Rows.factKeysRow.lifted = x) : (x == Try.prog.liftsFinal) = true := h ▸ seat_lifts_
set_option maxHeartbeats 0 in
theorem seat_make_ : (Try.prog.make == some Rows.factKeysRow.make) = true := by kernel_rfl
theorem seat_make {x : _} (h : Rows.factKeysRow.make = x) : (Try.prog.make == some x) = true := h ▸ seat_make_
end Go.Proofs.Ytkkagnpidfnmpaa
