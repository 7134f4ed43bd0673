/- The sql seat: Parse over texts of SqlCounts, run by the kernel. -/
import Derived.Test.YtfkhhbjdlgklnaaGreatDoorSB
namespace Go.Proofs.YtfkhhbjdlgklnaaGreatDoor
def x3_1 : List UInt8 := [83, 69, 76, 69, 67, 84, 32, 97, 32, 70, 82, 79, 77, 32, 116]
theorem p3_1 : parseOk 0 0 (parseRun x3_1) = true := by kernel_rfl
def x3_2 : List UInt8 := [83, 69, 76, 69, 67, 84, 32, 97, 44, 32, 97, 32, 70, 82, 79, 77, 32, 116]
theorem p3_2 : parseOk 0 0 (parseRun x3_2) = true := by kernel_rfl
def x3_3 : List UInt8 := [83, 69, 76, 69, 67, 84, 32, 97, 44, 32, 97, 44, 32, 97, 32, 70, 82, 79, 77, 32, 116]
theorem p3_3 : parseOk 0 0 (parseRun x3_3) = true := by kernel_rfl
def x3_4 : List UInt8 := [83, 69, 76, 69, 67, 84, 32, 97, 44, 32, 97, 44, 32, 97, 44, 32, 97, 32, 70, 82, 79, 77, 32, 116]
theorem p3_4 : parseOk 0 0 (parseRun x3_4) = true := by kernel_rfl
def x3_5 : List UInt8 := [83, 69, 76, 69, 67, 84, 32, 97, 44, 32, 97, 44, 32, 97, 44, 32, 97, 44, 32, 97, 32, 70, 82, 79, 77, 32, 116]
theorem p3_5 : parseOk 0 0 (parseRun x3_5) = true := by kernel_rfl
def x3_6 : List UInt8 := [83, 69, 76, 69, 67, 84, 32, 97, 44, 32, 97, 44, 32, 97, 44, 32, 97, 44, 32, 97, 44, 32, 97, 32, 70, 82, 79, 77, 32, 116]
theorem p3_6 : parseOk 0 0 (parseRun x3_6) = true := by kernel_rfl
def x3_7 : List UInt8 := [83, 69, 76, 69, 67, 84, 32, 97, 44, 32, 97, 44, 32, 97, 44, 32, 97, 44, 32, 97, 44, 32, 97, 44, 32, 97, 32, 70, 82, 79, 77, 32, 116]
theorem p3_7 : parseOk 0 0 (parseRun x3_7) = true := by kernel_rfl
end Go.Proofs.YtfkhhbjdlgklnaaGreatDoor
