/- The sql seat: Parse over texts of SqlCounts, run by the kernel. -/
import Derived.Test.YtfkhhbjdlgklnaaGreatDoorSB
namespace Go.Proofs.YtfkhhbjdlgklnaaGreatDoor
def x3_8 : List UInt8 := [83, 69, 76, 69, 67, 84, 32, 97, 44, 32, 97, 44, 32, 97, 44, 32, 97, 44, 32, 97, 44, 32, 97, 44, 32, 97, 44, 32, 97, 32, 70, 82, 79, 77, 32, 116]
theorem p3_8 : parseOk 0 0 (parseRun x3_8) = true := by kernel_rfl
def x3_9 : List UInt8 := [83, 69, 76, 69, 67, 84, 32, 97, 44, 32, 97, 44, 32, 97, 44, 32, 97, 44, 32, 97, 44, 32, 97, 44, 32, 97, 44, 32, 97, 44, 32, 97, 32, 70, 82, 79, 77, 32, 116]
theorem p3_9 : parseOk 31 17 (parseRun x3_9) = true := by kernel_rfl
def x3_10 : List UInt8 := [83, 69, 76, 69, 67, 84, 32, 97, 44, 32, 97, 44, 32, 97, 44, 32, 97, 44, 32, 97, 44, 32, 97, 44, 32, 97, 44, 32, 97, 44, 32, 97, 44, 32, 97, 32, 70, 82, 79, 77, 32, 116]
theorem p3_10 : parseOk 31 17 (parseRun x3_10) = true := by kernel_rfl
def x3_11 : List UInt8 := [83, 69, 76, 69, 67, 84, 32, 97, 44, 32, 97, 44, 32, 97, 44, 32, 97, 44, 32, 97, 44, 32, 97, 44, 32, 97, 44, 32, 97, 44, 32, 97, 44, 32, 97, 44, 32, 97, 32, 70, 82, 79, 77, 32, 116]
theorem p3_11 : parseOk 31 17 (parseRun x3_11) = true := by kernel_rfl
end Go.Proofs.YtfkhhbjdlgklnaaGreatDoor
