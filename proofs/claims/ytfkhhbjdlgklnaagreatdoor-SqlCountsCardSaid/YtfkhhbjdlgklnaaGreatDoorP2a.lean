/- The sql seat: Parse over texts of SqlCounts, run by the kernel. -/
import Derived.Test.YtfkhhbjdlgklnaaGreatDoorSB
namespace Go.Proofs.YtfkhhbjdlgklnaaGreatDoor
def x2_1 : List UInt8 := [73, 78, 83, 69, 82, 84, 32, 73, 78, 84, 79, 32, 116, 32, 86, 65, 76, 85, 69, 83, 32, 40, 49, 41]
theorem p2_1 : parseOk 0 0 (parseRun x2_1) = true := by kernel_rfl
def x2_2 : List UInt8 := [73, 78, 83, 69, 82, 84, 32, 73, 78, 84, 79, 32, 116, 32, 86, 65, 76, 85, 69, 83, 32, 40, 49, 41, 44, 32, 40, 49, 41]
theorem p2_2 : parseOk 0 0 (parseRun x2_2) = true := by kernel_rfl
def x2_3 : List UInt8 := [73, 78, 83, 69, 82, 84, 32, 73, 78, 84, 79, 32, 116, 32, 86, 65, 76, 85, 69, 83, 32, 40, 49, 41, 44, 32, 40, 49, 41, 44, 32, 40, 49, 41]
theorem p2_3 : parseOk 0 0 (parseRun x2_3) = true := by kernel_rfl
def x2_4 : List UInt8 := [73, 78, 83, 69, 82, 84, 32, 73, 78, 84, 79, 32, 116, 32, 86, 65, 76, 85, 69, 83, 32, 40, 49, 41, 44, 32, 40, 49, 41, 44, 32, 40, 49, 41, 44, 32, 40, 49, 41]
theorem p2_4 : parseOk 0 0 (parseRun x2_4) = true := by kernel_rfl
def x2_5 : List UInt8 := [73, 78, 83, 69, 82, 84, 32, 73, 78, 84, 79, 32, 116, 32, 86, 65, 76, 85, 69, 83, 32, 40, 49, 41, 44, 32, 40, 49, 41, 44, 32, 40, 49, 41, 44, 32, 40, 49, 41, 44, 32, 40, 49, 41]
theorem p2_5 : parseOk 0 0 (parseRun x2_5) = true := by kernel_rfl
def x2_6 : List UInt8 := [73, 78, 83, 69, 82, 84, 32, 73, 78, 84, 79, 32, 116, 32, 86, 65, 76, 85, 69, 83, 32, 40, 49, 41, 44, 32, 40, 49, 41, 44, 32, 40, 49, 41, 44, 32, 40, 49, 41, 44, 32, 40, 49, 41, 44, 32, 40, 49, 41]
theorem p2_6 : parseOk 0 0 (parseRun x2_6) = true := by kernel_rfl
def x2_7 : List UInt8 := [73, 78, 83, 69, 82, 84, 32, 73, 78, 84, 79, 32, 116, 32, 86, 65, 76, 85, 69, 83, 32, 40, 49, 41, 44, 32, 40, 49, 41, 44, 32, 40, 49, 41, 44, 32, 40, 49, 41, 44, 32, 40, 49, 41, 44, 32, 40, 49, 41, 44, 32, 40, 49, 41]
theorem p2_7 : parseOk 0 0 (parseRun x2_7) = true := by kernel_rfl
end Go.Proofs.YtfkhhbjdlgklnaaGreatDoor
