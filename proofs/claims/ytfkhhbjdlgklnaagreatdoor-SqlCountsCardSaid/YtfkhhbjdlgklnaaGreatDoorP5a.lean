/- The sql seat: Parse over texts of SqlCounts, run by the kernel. -/
import Derived.Test.YtfkhhbjdlgklnaaGreatDoorSB
namespace Go.Proofs.YtfkhhbjdlgklnaaGreatDoor
def x5_1 : List UInt8 := [83, 69, 76, 69, 67, 84, 32, 42, 32, 70, 82, 79, 77, 32, 116, 32, 79, 82, 68, 69, 82, 32, 66, 89, 32, 97]
theorem p5_1 : parseOk 0 0 (parseRun x5_1) = true := by kernel_rfl
def x5_2 : List UInt8 := [83, 69, 76, 69, 67, 84, 32, 42, 32, 70, 82, 79, 77, 32, 116, 32, 79, 82, 68, 69, 82, 32, 66, 89, 32, 97, 44, 32, 97]
theorem p5_2 : parseOk 0 0 (parseRun x5_2) = true := by kernel_rfl
def x5_3 : List UInt8 := [83, 69, 76, 69, 67, 84, 32, 42, 32, 70, 82, 79, 77, 32, 116, 32, 79, 82, 68, 69, 82, 32, 66, 89, 32, 97, 44, 32, 97, 44, 32, 97]
theorem p5_3 : parseOk 0 0 (parseRun x5_3) = true := by kernel_rfl
def x5_4 : List UInt8 := [83, 69, 76, 69, 67, 84, 32, 42, 32, 70, 82, 79, 77, 32, 116, 32, 79, 82, 68, 69, 82, 32, 66, 89, 32, 97, 44, 32, 97, 44, 32, 97, 44, 32, 97]
theorem p5_4 : parseOk 0 0 (parseRun x5_4) = true := by kernel_rfl
def x5_5 : List UInt8 := [83, 69, 76, 69, 67, 84, 32, 42, 32, 70, 82, 79, 77, 32, 116, 32, 79, 82, 68, 69, 82, 32, 66, 89, 32, 97, 44, 32, 97, 44, 32, 97, 44, 32, 97, 44, 32, 97]
theorem p5_5 : parseOk 0 0 (parseRun x5_5) = true := by kernel_rfl
def x5_6 : List UInt8 := [83, 69, 76, 69, 67, 84, 32, 42, 32, 70, 82, 79, 77, 32, 116, 32, 79, 82, 68, 69, 82, 32, 66, 89, 32, 97, 44, 32, 97, 44, 32, 97, 44, 32, 97, 44, 32, 97, 44, 32, 97]
theorem p5_6 : parseOk 0 0 (parseRun x5_6) = true := by kernel_rfl
def x5_7 : List UInt8 := [83, 69, 76, 69, 67, 84, 32, 42, 32, 70, 82, 79, 77, 32, 116, 32, 79, 82, 68, 69, 82, 32, 66, 89, 32, 97, 44, 32, 97, 44, 32, 97, 44, 32, 97, 44, 32, 97, 44, 32, 97, 44, 32, 97]
theorem p5_7 : parseOk 0 0 (parseRun x5_7) = true := by kernel_rfl
end Go.Proofs.YtfkhhbjdlgklnaaGreatDoor
