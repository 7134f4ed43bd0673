/- The sql seat: Parse over texts of SqlCounts, run by the kernel. -/
import Derived.Test.YtfkhhbjdlgklnaaGreatDoorSB
namespace Go.Proofs.YtfkhhbjdlgklnaaGreatDoor
def x5_8 : List UInt8 := [83, 69, 76, 69, 67, 84, 32, 42, 32, 70, 82, 79, 77, 32, 116, 32, 79, 82, 68, 69, 82, 32, 66, 89, 32, 97, 44, 32, 97, 44, 32, 97, 44, 32, 97, 44, 32, 97, 44, 32, 97, 44, 32, 97, 44, 32, 97]
theorem p5_8 : parseOk 0 0 (parseRun x5_8) = true := by kernel_rfl
def x5_9 : List UInt8 := [83, 69, 76, 69, 67, 84, 32, 42, 32, 70, 82, 79, 77, 32, 116, 32, 79, 82, 68, 69, 82, 32, 66, 89, 32, 97, 44, 32, 97, 44, 32, 97, 44, 32, 97, 44, 32, 97, 44, 32, 97, 44, 32, 97, 44, 32, 97, 44, 32, 97]
theorem p5_9 : parseOk 49 17 (parseRun x5_9) = true := by kernel_rfl
def x5_10 : List UInt8 := [83, 69, 76, 69, 67, 84, 32, 42, 32, 70, 82, 79, 77, 32, 116, 32, 79, 82, 68, 69, 82, 32, 66, 89, 32, 97, 44, 32, 97, 44, 32, 97, 44, 32, 97, 44, 32, 97, 44, 32, 97, 44, 32, 97, 44, 32, 97, 44, 32, 97, 44, 32, 97]
theorem p5_10 : parseOk 49 17 (parseRun x5_10) = true := by kernel_rfl
def x5_11 : List UInt8 := [83, 69, 76, 69, 67, 84, 32, 42, 32, 70, 82, 79, 77, 32, 116, 32, 79, 82, 68, 69, 82, 32, 66, 89, 32, 97, 44, 32, 97, 44, 32, 97, 44, 32, 97, 44, 32, 97, 44, 32, 97, 44, 32, 97, 44, 32, 97, 44, 32, 97, 44, 32, 97, 44, 32, 97]
theorem p5_11 : parseOk 49 17 (parseRun x5_11) = true := by kernel_rfl
end Go.Proofs.YtfkhhbjdlgklnaaGreatDoor
