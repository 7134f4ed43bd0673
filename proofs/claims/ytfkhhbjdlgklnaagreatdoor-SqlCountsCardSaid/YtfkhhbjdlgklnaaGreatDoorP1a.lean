/- The sql seat: Parse over texts of SqlCounts, run by the kernel. -/
import Derived.Test.YtfkhhbjdlgklnaaGreatDoorSB
namespace Go.Proofs.YtfkhhbjdlgklnaaGreatDoor
def x1_1 : List UInt8 := [73, 78, 83, 69, 82, 84, 32, 73, 78, 84, 79, 32, 116, 32, 86, 65, 76, 85, 69, 83, 32, 40, 49, 41]
theorem p1_1 : parseOk 0 0 (parseRun x1_1) = true := by kernel_rfl
def x1_2 : List UInt8 := [73, 78, 83, 69, 82, 84, 32, 73, 78, 84, 79, 32, 116, 32, 86, 65, 76, 85, 69, 83, 32, 40, 49, 44, 32, 49, 41]
theorem p1_2 : parseOk 0 0 (parseRun x1_2) = true := by kernel_rfl
def x1_3 : List UInt8 := [73, 78, 83, 69, 82, 84, 32, 73, 78, 84, 79, 32, 116, 32, 86, 65, 76, 85, 69, 83, 32, 40, 49, 44, 32, 49, 44, 32, 49, 41]
theorem p1_3 : parseOk 0 0 (parseRun x1_3) = true := by kernel_rfl
def x1_4 : List UInt8 := [73, 78, 83, 69, 82, 84, 32, 73, 78, 84, 79, 32, 116, 32, 86, 65, 76, 85, 69, 83, 32, 40, 49, 44, 32, 49, 44, 32, 49, 44, 32, 49, 41]
theorem p1_4 : parseOk 0 0 (parseRun x1_4) = true := by kernel_rfl
def x1_5 : List UInt8 := [73, 78, 83, 69, 82, 84, 32, 73, 78, 84, 79, 32, 116, 32, 86, 65, 76, 85, 69, 83, 32, 40, 49, 44, 32, 49, 44, 32, 49, 44, 32, 49, 44, 32, 49, 41]
theorem p1_5 : parseOk 0 0 (parseRun x1_5) = true := by kernel_rfl
def x1_6 : List UInt8 := [73, 78, 83, 69, 82, 84, 32, 73, 78, 84, 79, 32, 116, 32, 86, 65, 76, 85, 69, 83, 32, 40, 49, 44, 32, 49, 44, 32, 49, 44, 32, 49, 44, 32, 49, 44, 32, 49, 41]
theorem p1_6 : parseOk 0 0 (parseRun x1_6) = true := by kernel_rfl
def x1_7 : List UInt8 := [73, 78, 83, 69, 82, 84, 32, 73, 78, 84, 79, 32, 116, 32, 86, 65, 76, 85, 69, 83, 32, 40, 49, 44, 32, 49, 44, 32, 49, 44, 32, 49, 44, 32, 49, 44, 32, 49, 44, 32, 49, 41]
theorem p1_7 : parseOk 0 0 (parseRun x1_7) = true := by kernel_rfl
end Go.Proofs.YtfkhhbjdlgklnaaGreatDoor
