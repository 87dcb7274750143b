/- The readers of the laws' arguments. -/
import Derived.Test.YthnmagdaepgdiaaXLaw4
set_option linter.unusedSimpArgs false
set_option linter.unusedVariables false
namespace Go.Proofs.YthnmagdaepgdiaaX
open Go Go.SX
theorem rdrSeats {H : Type} (enc : TypeId × Value → H) (W : World) : Rdr enc Try.prog W 27 (seatK.slice 56) := rdr_slice Try.underlying27 (sz := 5) (by kernel_rfl) (by kernel_rfl) rfl (by decide) (rdrSeat enc W)
theorem rdrInts {H : Type} (enc : TypeId × Value → H) (W : World) : Rdr enc Try.prog W 28 ((Kd.int .i64).slice 8) := rdr_slice Try.underlying28 (sz := 1) (by kernel_rfl) (by kernel_rfl) rfl (by decide) (rdr_int Try.underlying3)
end Go.Proofs.YthnmagdaepgdiaaX
