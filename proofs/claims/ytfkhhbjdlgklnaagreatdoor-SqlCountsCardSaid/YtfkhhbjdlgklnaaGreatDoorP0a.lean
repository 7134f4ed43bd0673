/- The sql seat: Parse over texts of SqlCounts, run by the kernel. -/
import Derived.Test.YtfkhhbjdlgklnaaGreatDoorSB
namespace Go.Proofs.YtfkhhbjdlgklnaaGreatDoor
def x0_1 : List UInt8 := [67, 82, 69, 65, 84, 69, 32, 84, 65, 66, 76, 69, 32, 116, 32, 40, 97, 32, 73, 78, 84, 41]
theorem p0_1 : parseOk 0 0 (parseRun x0_1) = true := by kernel_rfl
def x0_2 : List UInt8 := [67, 82, 69, 65, 84, 69, 32, 84, 65, 66, 76, 69, 32, 116, 32, 40, 97, 32, 73, 78, 84, 44, 32, 97, 32, 73, 78, 84, 41]
theorem p0_2 : parseOk 0 0 (parseRun x0_2) = true := by kernel_rfl
def x0_3 : List UInt8 := [67, 82, 69, 65, 84, 69, 32, 84, 65, 66, 76, 69, 32, 116, 32, 40, 97, 32, 73, 78, 84, 44, 32, 97, 32, 73, 78, 84, 44, 32, 97, 32, 73, 78, 84, 41]
theorem p0_3 : parseOk 0 0 (parseRun x0_3) = true := by kernel_rfl
def x0_4 : List UInt8 := [67, 82, 69, 65, 84, 69, 32, 84, 65, 66, 76, 69, 32, 116, 32, 40, 97, 32, 73, 78, 84, 44, 32, 97, 32, 73, 78, 84, 44, 32, 97, 32, 73, 78, 84, 44, 32, 97, 32, 73, 78, 84, 41]
theorem p0_4 : parseOk 0 0 (parseRun x0_4) = true := by kernel_rfl
def x0_5 : List UInt8 := [67, 82, 69, 65, 84, 69, 32, 84, 65, 66, 76, 69, 32, 116, 32, 40, 97, 32, 73, 78, 84, 44, 32, 97, 32, 73, 78, 84, 44, 32, 97, 32, 73, 78, 84, 44, 32, 97, 32, 73, 78, 84, 44, 32, 97, 32, 73, 78, 84, 41]
theorem p0_5 : parseOk 0 0 (parseRun x0_5) = true := by kernel_rfl
def x0_6 : List UInt8 := [67, 82, 69, 65, 84, 69, 32, 84, 65, 66, 76, 69, 32, 116, 32, 40, 97, 32, 73, 78, 84, 44, 32, 97, 32, 73, 78, 84, 44, 32, 97, 32, 73, 78, 84, 44, 32, 97, 32, 73, 78, 84, 44, 32, 97, 32, 73, 78, 84, 44, 32, 97, 32, 73, 78, 84, 41]
theorem p0_6 : parseOk 0 0 (parseRun x0_6) = true := by kernel_rfl
def x0_7 : List UInt8 := [67, 82, 69, 65, 84, 69, 32, 84, 65, 66, 76, 69, 32, 116, 32, 40, 97, 32, 73, 78, 84, 44, 32, 97, 32, 73, 78, 84, 44, 32, 97, 32, 73, 78, 84, 44, 32, 97, 32, 73, 78, 84, 44, 32, 97, 32, 73, 78, 84, 44, 32, 97, 32, 73, 78, 84, 44, 32, 97, 32, 73, 78, 84, 41]
theorem p0_7 : parseOk 0 0 (parseRun x0_7) = true := by kernel_rfl
end Go.Proofs.YtfkhhbjdlgklnaaGreatDoor
