/- The sql seat: Parse over texts of SqlCounts, run by the kernel. -/
import Derived.Test.YtfkhhbjdlgklnaaGreatDoorSB
namespace Go.Proofs.YtfkhhbjdlgklnaaGreatDoor
def x1_8 : List UInt8 := [73, 78, 83, 69, 82, 84, 32, 73, 78, 84, 79, 32, 116, 32, 86, 65, 76, 85, 69, 83, 32, 40, 49, 44, 32, 49, 44, 32, 49, 44, 32, 49, 44, 32, 49, 44, 32, 49, 44, 32, 49, 44, 32, 49, 41]
theorem p1_8 : parseOk 0 0 (parseRun x1_8) = true := by kernel_rfl
def x1_9 : List UInt8 := [73, 78, 83, 69, 82, 84, 32, 73, 78, 84, 79, 32, 116, 32, 86, 65, 76, 85, 69, 83, 32, 40, 49, 44, 32, 49, 44, 32, 49, 44, 32, 49, 44, 32, 49, 44, 32, 49, 44, 32, 49, 44, 32, 49, 44, 32, 49, 41]
theorem p1_9 : parseOk 46 17 (parseRun x1_9) = true := by kernel_rfl
def x1_10 : List UInt8 := [73, 78, 83, 69, 82, 84, 32, 73, 78, 84, 79, 32, 116, 32, 86, 65, 76, 85, 69, 83, 32, 40, 49, 44, 32, 49, 44, 32, 49, 44, 32, 49, 44, 32, 49, 44, 32, 49, 44, 32, 49, 44, 32, 49, 44, 32, 49, 44, 32, 49, 41]
theorem p1_10 : parseOk 46 17 (parseRun x1_10) = true := by kernel_rfl
def x1_11 : List UInt8 := [73, 78, 83, 69, 82, 84, 32, 73, 78, 84, 79, 32, 116, 32, 86, 65, 76, 85, 69, 83, 32, 40, 49, 44, 32, 49, 44, 32, 49, 44, 32, 49, 44, 32, 49, 44, 32, 49, 44, 32, 49, 44, 32, 49, 44, 32, 49, 44, 32, 49, 44, 32, 49, 41]
theorem p1_11 : parseOk 46 17 (parseRun x1_11) = true := by kernel_rfl
end Go.Proofs.YtfkhhbjdlgklnaaGreatDoor
