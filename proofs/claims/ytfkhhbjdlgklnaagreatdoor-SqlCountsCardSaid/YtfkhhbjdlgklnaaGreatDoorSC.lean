/- The sql seat: what law 18 says of itself, run by the kernel. -/
import Derived.Test.YtfkhhbjdlgklnaaGreatDoorSB
import Derived.Test.YtfkhhbjdlgklnaaGreatDoorMF
namespace Go.Proofs.YtfkhhbjdlgklnaaGreatDoor
open Go Go.AM
theorem speaks_run : isTrue (runG cy Tryz.prog 100000 (.call 19 []) heap0) = true := by kernel_rfl
end Go.Proofs.YtfkhhbjdlgklnaaGreatDoor
