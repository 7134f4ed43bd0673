/- The sql seat: SqlCounts walked, kind 0; Parse by its contract. -/
import Derived.Test.YtfkhhbjdlgklnaaGreatDoorSD
import Derived.WalkKit
import Derived.ProofKit
import Derived.LoopTactic
namespace Go.Proofs.YtfkhhbjdlgklnaaGreatDoor
open Go Go.RowKit
def tA0 : List UInt8 := [67, 82, 69, 65, 84, 69, 32, 84, 65, 66, 76, 69, 32, 116, 32, 40]
def tB0 : List UInt8 := [97, 32, 73, 78, 84]
def tM0 : List UInt8 := [44, 32]
def tD0 : List UInt8 := [41]
set_option maxRecDepth 100000 in
theorem walk0 {w : World} (n k : Int) (hn0 : 0 ≤ n) (hn : n ≤ 255) (hk0 : 0 ≤ k) (hk : k ≤ 255) (hk6 : k % 6 = 0) (c : Nat) (hc : c ≤ 10) (hnc : n % 11 = (c : Int)) (hsp : Calls Tryz.prog 19 #[] w fun e w' => e = .returned (.bool true) ∧ Below w.heap.size w w')
    (hpa : ∀ w', Below w.heap.size w w' → Calls Tryz.prog 20 #[.string (⟨⟨pre tA0 tB0 tM0 (c + 1)⟩⟩ ++ ⟨⟨tD0⟩⟩)] w' fun x w'' => ParsedTo (atOf tA0 tB0 tM0 (c + 1)) (errOf (c + 1)) x ∧ Below w'.heap.size w' w'') :
    Calls Tryz.prog 7 #[.int .u8 n, .int .u8 k] w fun e w' => e = .returned (.bool true) ∧ Below w.heap.size w w' := by
  go_enter Tryz.func7, Tryz.ntmps7
  go_wp2_with (go_at_call 19; refine hsp.mono ?_; rintro e w' ⟨rfl, hb⟩)
  go_loop [10, 11, 12] (fun s at_ i => ∃ j : Nat, j ≤ c + 1 ∧ i = .int .i64 j ∧ s = .string ⟨⟨pre tA0 tB0 tM0 j⟩⟩ ∧ at_ = .int .i64 (atOf tA0 tB0 tM0 j : Nat)) (fun _ _ i => c + 1 - (intOf i).toNat)
  case atStart => exact ⟨0, Nat.zero_le _, rfl, rfl, rfl⟩
  case round =>
    obtain ⟨j, hj, rfl, rfl, rfl⟩ := hrel
    have hl := pre_len tA0 tB0 tM0 (by decide) (by decide) (by decide) j
    have hs1 : ¬ 9223372036854775807 < (pre tA0 tB0 tM0 j).length + 2 := by omega
    have hs2 : ¬ 9223372036854775807 < (pre tA0 tB0 tM0 j).length + 2 + 5 := by omega
    have hs3 : ¬ 9223372036854775807 < (pre tA0 tB0 tM0 j).length + 5 := by omega
    have hs4 : ¬ 9223372036854775807 < (pre tA0 tB0 tM0 j).length + 1 := by omega
    clear hl
    by_cases hlt : j < c + 1
    · by_cases h0 : j = 0
      · subst h0
        go_wp2
        go_round
        case rel => exact ⟨1, by omega, rfl, rfl, rfl⟩
        case measure => simp [intOf]
      · have hp : 0 < j := by omega
        by_cases h8 : j = 8
        · subst h8
          go_wp2
          go_round
          case rel => exact ⟨9, by omega, rfl, by rw [pre_next _ _ _ 8 (by omega), ← app, ← app]; rfl, by rw [atOf_high _ _ _ 9 (by omega)]; simp [tM0]⟩
          case measure => simp [intOf]; omega
        · go_wp2
          go_round
          case rel =>
            refine ⟨j + 1, by omega, by go_num, by rw [pre_next _ _ _ j hp, ← app, ← app]; rfl, ?_⟩
            by_cases h9 : j ≤ 8
            · rw [atOf_low _ _ _ _ h9, atOf_low _ _ _ _ (by omega)]
            · rw [atOf_high _ _ _ _ (by omega), atOf_high _ _ _ _ (by omega)]
          case measure => simp [intOf]; omega
    · obtain rfl : j = c + 1 := by omega
      by_cases h8 : c + 1 ≤ 8
      · have he : errOf (c + 1) = 0 := by
          have : Nat.ble (c + 1) 8 = true := by rwa [Nat.ble_eq]
          simp [errOf, this]
        rw [he] at hpa
        go_wp2_with (go_at_call 20; refine (hpa _ hb).mono ?_; rintro e w' ⟨⟨a, s, p0, l0, c0, p1, l1, c1, p2, l2, c2, p3, l3, c3, p4, l4, c4, p5, l5, c5, p6, l6, c6, b, rfl⟩, hb2⟩)
        go_ret
        exact ⟨rfl, (hb.trans (hb2.mono hb.size)).alloc (Nat.le_trans hb.size hb2.size) _⟩
      · have he : errOf (c + 1) = 17 := by
          have : Nat.ble (c + 1) 8 = false := by rw [Bool.eq_false_iff]; intro e; rw [Nat.ble_eq] at e; omega
          simp [errOf, this]
        rw [he] at hpa
        go_wp2_with (go_at_call 20; refine (hpa _ hb).mono ?_; rintro e w' ⟨⟨a, s, p0, l0, c0, p1, l1, c1, p2, l2, c2, p3, l3, c3, p4, l4, c4, p5, l5, c5, p6, l6, c6, b, rfl⟩, hb2⟩)
        go_ret
        exact ⟨rfl, (hb.trans (hb2.mono hb.size)).alloc (Nat.le_trans hb.size hb2.size) _⟩
end Go.Proofs.YtfkhhbjdlgklnaaGreatDoor

/- The sql seat: SqlCounts walked, kind 1; Parse by its contract. -/
namespace Go.Proofs.YtfkhhbjdlgklnaaGreatDoor
open Go Go.RowKit
def tA1 : List UInt8 := [73, 78, 83, 69, 82, 84, 32, 73, 78, 84, 79, 32, 116, 32, 86, 65, 76, 85, 69, 83, 32, 40]
def tB1 : List UInt8 := [49]
def tM1 : List UInt8 := [44, 32]
def tD1 : List UInt8 := [41]
set_option maxRecDepth 100000 in
theorem walk1 {w : World} (n k : Int) (hn0 : 0 ≤ n) (hn : n ≤ 255) (hk0 : 0 ≤ k) (hk : k ≤ 255) (hk6 : k % 6 = 1) (c : Nat) (hc : c ≤ 10) (hnc : n % 11 = (c : Int)) (hsp : Calls Tryz.prog 19 #[] w fun e w' => e = .returned (.bool true) ∧ Below w.heap.size w w')
    (hpa : ∀ w', Below w.heap.size w w' → Calls Tryz.prog 20 #[.string (⟨⟨pre tA1 tB1 tM1 (c + 1)⟩⟩ ++ ⟨⟨tD1⟩⟩)] w' fun x w'' => ParsedTo (atOf tA1 tB1 tM1 (c + 1)) (errOf (c + 1)) x ∧ Below w'.heap.size w' w'') :
    Calls Tryz.prog 7 #[.int .u8 n, .int .u8 k] w fun e w' => e = .returned (.bool true) ∧ Below w.heap.size w w' := by
  go_enter Tryz.func7, Tryz.ntmps7
  go_wp2_with (go_at_call 19; refine hsp.mono ?_; rintro e w' ⟨rfl, hb⟩)
  go_loop [10, 11, 12] (fun s at_ i => ∃ j : Nat, j ≤ c + 1 ∧ i = .int .i64 j ∧ s = .string ⟨⟨pre tA1 tB1 tM1 j⟩⟩ ∧ at_ = .int .i64 (atOf tA1 tB1 tM1 j : Nat)) (fun _ _ i => c + 1 - (intOf i).toNat)
  case atStart => exact ⟨0, Nat.zero_le _, rfl, rfl, rfl⟩
  case round =>
    obtain ⟨j, hj, rfl, rfl, rfl⟩ := hrel
    have hl := pre_len tA1 tB1 tM1 (by decide) (by decide) (by decide) j
    have hs1 : ¬ 9223372036854775807 < (pre tA1 tB1 tM1 j).length + 2 := by omega
    have hs2 : ¬ 9223372036854775807 < (pre tA1 tB1 tM1 j).length + 2 + 1 := by omega
    have hs3 : ¬ 9223372036854775807 < (pre tA1 tB1 tM1 j).length + 1 := by omega
    have hs4 : ¬ 9223372036854775807 < (pre tA1 tB1 tM1 j).length + 1 := by omega
    clear hl
    by_cases hlt : j < c + 1
    · by_cases h0 : j = 0
      · subst h0
        go_wp2
        go_round
        case rel => exact ⟨1, by omega, rfl, rfl, rfl⟩
        case measure => simp [intOf]
      · have hp : 0 < j := by omega
        by_cases h8 : j = 8
        · subst h8
          go_wp2
          go_round
          case rel => exact ⟨9, by omega, rfl, by rw [pre_next _ _ _ 8 (by omega), ← app, ← app]; rfl, by rw [atOf_high _ _ _ 9 (by omega)]; simp [tM1]⟩
          case measure => simp [intOf]; omega
        · go_wp2
          go_round
          case rel =>
            refine ⟨j + 1, by omega, by go_num, by rw [pre_next _ _ _ j hp, ← app, ← app]; rfl, ?_⟩
            by_cases h9 : j ≤ 8
            · rw [atOf_low _ _ _ _ h9, atOf_low _ _ _ _ (by omega)]
            · rw [atOf_high _ _ _ _ (by omega), atOf_high _ _ _ _ (by omega)]
          case measure => simp [intOf]; omega
    · obtain rfl : j = c + 1 := by omega
      by_cases h8 : c + 1 ≤ 8
      · have he : errOf (c + 1) = 0 := by
          have : Nat.ble (c + 1) 8 = true := by rwa [Nat.ble_eq]
          simp [errOf, this]
        rw [he] at hpa
        go_wp2_with (go_at_call 20; refine (hpa _ hb).mono ?_; rintro e w' ⟨⟨a, s, p0, l0, c0, p1, l1, c1, p2, l2, c2, p3, l3, c3, p4, l4, c4, p5, l5, c5, p6, l6, c6, b, rfl⟩, hb2⟩)
        go_ret
        exact ⟨rfl, (hb.trans (hb2.mono hb.size)).alloc (Nat.le_trans hb.size hb2.size) _⟩
      · have he : errOf (c + 1) = 17 := by
          have : Nat.ble (c + 1) 8 = false := by rw [Bool.eq_false_iff]; intro e; rw [Nat.ble_eq] at e; omega
          simp [errOf, this]
        rw [he] at hpa
        go_wp2_with (go_at_call 20; refine (hpa _ hb).mono ?_; rintro e w' ⟨⟨a, s, p0, l0, c0, p1, l1, c1, p2, l2, c2, p3, l3, c3, p4, l4, c4, p5, l5, c5, p6, l6, c6, b, rfl⟩, hb2⟩)
        go_ret
        exact ⟨rfl, (hb.trans (hb2.mono hb.size)).alloc (Nat.le_trans hb.size hb2.size) _⟩
end Go.Proofs.YtfkhhbjdlgklnaaGreatDoor

/- The sql seat: SqlCounts walked, kind 2; Parse by its contract. -/
namespace Go.Proofs.YtfkhhbjdlgklnaaGreatDoor
open Go Go.RowKit
def tA2 : List UInt8 := [73, 78, 83, 69, 82, 84, 32, 73, 78, 84, 79, 32, 116, 32, 86, 65, 76, 85, 69, 83, 32]
def tB2 : List UInt8 := [40, 49, 41]
def tM2 : List UInt8 := [44, 32]
def tD2 : List UInt8 := []
set_option maxRecDepth 100000 in
theorem walk2 {w : World} (n k : Int) (hn0 : 0 ≤ n) (hn : n ≤ 255) (hk0 : 0 ≤ k) (hk : k ≤ 255) (hk6 : k % 6 = 2) (c : Nat) (hc : c ≤ 10) (hnc : n % 11 = (c : Int)) (hsp : Calls Tryz.prog 19 #[] w fun e w' => e = .returned (.bool true) ∧ Below w.heap.size w w')
    (hpa : ∀ w', Below w.heap.size w w' → Calls Tryz.prog 20 #[.string (⟨⟨pre tA2 tB2 tM2 (c + 1)⟩⟩ ++ ⟨⟨tD2⟩⟩)] w' fun x w'' => ParsedTo (atOf tA2 tB2 tM2 (c + 1)) (errOf (c + 1)) x ∧ Below w'.heap.size w' w'') :
    Calls Tryz.prog 7 #[.int .u8 n, .int .u8 k] w fun e w' => e = .returned (.bool true) ∧ Below w.heap.size w w' := by
  go_enter Tryz.func7, Tryz.ntmps7
  go_wp2_with (go_at_call 19; refine hsp.mono ?_; rintro e w' ⟨rfl, hb⟩)
  go_loop [10, 11, 12] (fun s at_ i => ∃ j : Nat, j ≤ c + 1 ∧ i = .int .i64 j ∧ s = .string ⟨⟨pre tA2 tB2 tM2 j⟩⟩ ∧ at_ = .int .i64 (atOf tA2 tB2 tM2 j : Nat)) (fun _ _ i => c + 1 - (intOf i).toNat)
  case atStart => exact ⟨0, Nat.zero_le _, rfl, rfl, rfl⟩
  case round =>
    obtain ⟨j, hj, rfl, rfl, rfl⟩ := hrel
    have hl := pre_len tA2 tB2 tM2 (by decide) (by decide) (by decide) j
    have hs1 : ¬ 9223372036854775807 < (pre tA2 tB2 tM2 j).length + 2 := by omega
    have hs2 : ¬ 9223372036854775807 < (pre tA2 tB2 tM2 j).length + 2 + 3 := by omega
    have hs3 : ¬ 9223372036854775807 < (pre tA2 tB2 tM2 j).length + 3 := by omega
    have hs4 : ¬ 9223372036854775807 < (pre tA2 tB2 tM2 j).length + 0 := by omega
    clear hl
    by_cases hlt : j < c + 1
    · by_cases h0 : j = 0
      · subst h0
        go_wp2
        go_round
        case rel => exact ⟨1, by omega, rfl, rfl, rfl⟩
        case measure => simp [intOf]
      · have hp : 0 < j := by omega
        by_cases h8 : j = 8
        · subst h8
          go_wp2
          go_round
          case rel => exact ⟨9, by omega, rfl, by rw [pre_next _ _ _ 8 (by omega), ← app, ← app]; rfl, by rw [atOf_high _ _ _ 9 (by omega)]; simp [tM2]⟩
          case measure => simp [intOf]; omega
        · go_wp2
          go_round
          case rel =>
            refine ⟨j + 1, by omega, by go_num, by rw [pre_next _ _ _ j hp, ← app, ← app]; rfl, ?_⟩
            by_cases h9 : j ≤ 8
            · rw [atOf_low _ _ _ _ h9, atOf_low _ _ _ _ (by omega)]
            · rw [atOf_high _ _ _ _ (by omega), atOf_high _ _ _ _ (by omega)]
          case measure => simp [intOf]; omega
    · obtain rfl : j = c + 1 := by omega
      by_cases h8 : c + 1 ≤ 8
      · have he : errOf (c + 1) = 0 := by
          have : Nat.ble (c + 1) 8 = true := by rwa [Nat.ble_eq]
          simp [errOf, this]
        rw [he] at hpa
        go_wp2_with (go_at_call 20; refine (hpa _ hb).mono ?_; rintro e w' ⟨⟨a, s, p0, l0, c0, p1, l1, c1, p2, l2, c2, p3, l3, c3, p4, l4, c4, p5, l5, c5, p6, l6, c6, b, rfl⟩, hb2⟩)
        go_ret
        exact ⟨rfl, (hb.trans (hb2.mono hb.size)).alloc (Nat.le_trans hb.size hb2.size) _⟩
      · have he : errOf (c + 1) = 17 := by
          have : Nat.ble (c + 1) 8 = false := by rw [Bool.eq_false_iff]; intro e; rw [Nat.ble_eq] at e; omega
          simp [errOf, this]
        rw [he] at hpa
        go_wp2_with (go_at_call 20; refine (hpa _ hb).mono ?_; rintro e w' ⟨⟨a, s, p0, l0, c0, p1, l1, c1, p2, l2, c2, p3, l3, c3, p4, l4, c4, p5, l5, c5, p6, l6, c6, b, rfl⟩, hb2⟩)
        go_ret
        exact ⟨rfl, (hb.trans (hb2.mono hb.size)).alloc (Nat.le_trans hb.size hb2.size) _⟩
end Go.Proofs.YtfkhhbjdlgklnaaGreatDoor

/- The sql seat: SqlCounts walked, kind 3; Parse by its contract. -/
namespace Go.Proofs.YtfkhhbjdlgklnaaGreatDoor
open Go Go.RowKit
def tA3 : List UInt8 := [83, 69, 76, 69, 67, 84, 32]
def tB3 : List UInt8 := [97]
def tM3 : List UInt8 := [44, 32]
def tD3 : List UInt8 := [32, 70, 82, 79, 77, 32, 116]
set_option maxRecDepth 100000 in
theorem walk3 {w : World} (n k : Int) (hn0 : 0 ≤ n) (hn : n ≤ 255) (hk0 : 0 ≤ k) (hk : k ≤ 255) (hk6 : k % 6 = 3) (c : Nat) (hc : c ≤ 10) (hnc : n % 11 = (c : Int)) (hsp : Calls Tryz.prog 19 #[] w fun e w' => e = .returned (.bool true) ∧ Below w.heap.size w w')
    (hpa : ∀ w', Below w.heap.size w w' → Calls Tryz.prog 20 #[.string (⟨⟨pre tA3 tB3 tM3 (c + 1)⟩⟩ ++ ⟨⟨tD3⟩⟩)] w' fun x w'' => ParsedTo (atOf tA3 tB3 tM3 (c + 1)) (errOf (c + 1)) x ∧ Below w'.heap.size w' w'') :
    Calls Tryz.prog 7 #[.int .u8 n, .int .u8 k] w fun e w' => e = .returned (.bool true) ∧ Below w.heap.size w w' := by
  go_enter Tryz.func7, Tryz.ntmps7
  go_wp2_with (go_at_call 19; refine hsp.mono ?_; rintro e w' ⟨rfl, hb⟩)
  go_loop [10, 11, 12] (fun s at_ i => ∃ j : Nat, j ≤ c + 1 ∧ i = .int .i64 j ∧ s = .string ⟨⟨pre tA3 tB3 tM3 j⟩⟩ ∧ at_ = .int .i64 (atOf tA3 tB3 tM3 j : Nat)) (fun _ _ i => c + 1 - (intOf i).toNat)
  case atStart => exact ⟨0, Nat.zero_le _, rfl, rfl, rfl⟩
  case round =>
    obtain ⟨j, hj, rfl, rfl, rfl⟩ := hrel
    have hl := pre_len tA3 tB3 tM3 (by decide) (by decide) (by decide) j
    have hs1 : ¬ 9223372036854775807 < (pre tA3 tB3 tM3 j).length + 2 := by omega
    have hs2 : ¬ 9223372036854775807 < (pre tA3 tB3 tM3 j).length + 2 + 1 := by omega
    have hs3 : ¬ 9223372036854775807 < (pre tA3 tB3 tM3 j).length + 1 := by omega
    have hs4 : ¬ 9223372036854775807 < (pre tA3 tB3 tM3 j).length + 7 := by omega
    clear hl
    by_cases hlt : j < c + 1
    · by_cases h0 : j = 0
      · subst h0
        go_wp2
        go_round
        case rel => exact ⟨1, by omega, rfl, rfl, rfl⟩
        case measure => simp [intOf]
      · have hp : 0 < j := by omega
        by_cases h8 : j = 8
        · subst h8
          go_wp2
          go_round
          case rel => exact ⟨9, by omega, rfl, by rw [pre_next _ _ _ 8 (by omega), ← app, ← app]; rfl, by rw [atOf_high _ _ _ 9 (by omega)]; simp [tM3]⟩
          case measure => simp [intOf]; omega
        · go_wp2
          go_round
          case rel =>
            refine ⟨j + 1, by omega, by go_num, by rw [pre_next _ _ _ j hp, ← app, ← app]; rfl, ?_⟩
            by_cases h9 : j ≤ 8
            · rw [atOf_low _ _ _ _ h9, atOf_low _ _ _ _ (by omega)]
            · rw [atOf_high _ _ _ _ (by omega), atOf_high _ _ _ _ (by omega)]
          case measure => simp [intOf]; omega
    · obtain rfl : j = c + 1 := by omega
      by_cases h8 : c + 1 ≤ 8
      · have he : errOf (c + 1) = 0 := by
          have : Nat.ble (c + 1) 8 = true := by rwa [Nat.ble_eq]
          simp [errOf, this]
        rw [he] at hpa
        go_wp2_with (go_at_call 20; refine (hpa _ hb).mono ?_; rintro e w' ⟨⟨a, s, p0, l0, c0, p1, l1, c1, p2, l2, c2, p3, l3, c3, p4, l4, c4, p5, l5, c5, p6, l6, c6, b, rfl⟩, hb2⟩)
        go_ret
        exact ⟨rfl, (hb.trans (hb2.mono hb.size)).alloc (Nat.le_trans hb.size hb2.size) _⟩
      · have he : errOf (c + 1) = 17 := by
          have : Nat.ble (c + 1) 8 = false := by rw [Bool.eq_false_iff]; intro e; rw [Nat.ble_eq] at e; omega
          simp [errOf, this]
        rw [he] at hpa
        go_wp2_with (go_at_call 20; refine (hpa _ hb).mono ?_; rintro e w' ⟨⟨a, s, p0, l0, c0, p1, l1, c1, p2, l2, c2, p3, l3, c3, p4, l4, c4, p5, l5, c5, p6, l6, c6, b, rfl⟩, hb2⟩)
        go_ret
        exact ⟨rfl, (hb.trans (hb2.mono hb.size)).alloc (Nat.le_trans hb.size hb2.size) _⟩
end Go.Proofs.YtfkhhbjdlgklnaaGreatDoor

/- The sql seat: SqlCounts walked, kind 4; Parse by its contract. -/
namespace Go.Proofs.YtfkhhbjdlgklnaaGreatDoor
open Go Go.RowKit
def tA4 : List UInt8 := []
def tB4 : List UInt8 := [83, 69, 76, 69, 67, 84, 32, 42, 32, 70, 82, 79, 77, 32, 116]
def tM4 : List UInt8 := [32, 85, 78, 73, 79, 78, 32, 65, 76, 76, 32]
def tD4 : List UInt8 := []
set_option maxRecDepth 100000 in
theorem walk4 {w : World} (n k : Int) (hn0 : 0 ≤ n) (hn : n ≤ 255) (hk0 : 0 ≤ k) (hk : k ≤ 255) (hk6 : k % 6 = 4) (c : Nat) (hc : c ≤ 10) (hnc : n % 11 = (c : Int)) (hsp : Calls Tryz.prog 19 #[] w fun e w' => e = .returned (.bool true) ∧ Below w.heap.size w w')
    (hpa : ∀ w', Below w.heap.size w w' → Calls Tryz.prog 20 #[.string (⟨⟨pre tA4 tB4 tM4 (c + 1)⟩⟩ ++ ⟨⟨tD4⟩⟩)] w' fun x w'' => ParsedTo (atOf tA4 tB4 tM4 (c + 1)) (errOf (c + 1)) x ∧ Below w'.heap.size w' w'') :
    Calls Tryz.prog 7 #[.int .u8 n, .int .u8 k] w fun e w' => e = .returned (.bool true) ∧ Below w.heap.size w w' := by
  go_enter Tryz.func7, Tryz.ntmps7
  go_wp2_with (go_at_call 19; refine hsp.mono ?_; rintro e w' ⟨rfl, hb⟩)
  go_loop [10, 11, 12] (fun s at_ i => ∃ j : Nat, j ≤ c + 1 ∧ i = .int .i64 j ∧ s = .string ⟨⟨pre tA4 tB4 tM4 j⟩⟩ ∧ at_ = .int .i64 (atOf tA4 tB4 tM4 j : Nat)) (fun _ _ i => c + 1 - (intOf i).toNat)
  case atStart => exact ⟨0, Nat.zero_le _, rfl, rfl, rfl⟩
  case round =>
    obtain ⟨j, hj, rfl, rfl, rfl⟩ := hrel
    have hl := pre_len tA4 tB4 tM4 (by decide) (by decide) (by decide) j
    have hs1 : ¬ 9223372036854775807 < (pre tA4 tB4 tM4 j).length + 11 := by omega
    have hs2 : ¬ 9223372036854775807 < (pre tA4 tB4 tM4 j).length + 11 + 15 := by omega
    have hs3 : ¬ 9223372036854775807 < (pre tA4 tB4 tM4 j).length + 15 := by omega
    have hs4 : ¬ 9223372036854775807 < (pre tA4 tB4 tM4 j).length + 0 := by omega
    clear hl
    by_cases hlt : j < c + 1
    · by_cases h0 : j = 0
      · subst h0
        go_wp2
        go_round
        case rel => exact ⟨1, by omega, rfl, rfl, rfl⟩
        case measure => simp [intOf]
      · have hp : 0 < j := by omega
        by_cases h8 : j = 8
        · subst h8
          go_wp2
          go_round
          case rel => exact ⟨9, by omega, rfl, by rw [pre_next _ _ _ 8 (by omega), ← app, ← app]; rfl, by rw [atOf_high _ _ _ 9 (by omega)]; simp [tM4]⟩
          case measure => simp [intOf]; omega
        · go_wp2
          go_round
          case rel =>
            refine ⟨j + 1, by omega, by go_num, by rw [pre_next _ _ _ j hp, ← app, ← app]; rfl, ?_⟩
            by_cases h9 : j ≤ 8
            · rw [atOf_low _ _ _ _ h9, atOf_low _ _ _ _ (by omega)]
            · rw [atOf_high _ _ _ _ (by omega), atOf_high _ _ _ _ (by omega)]
          case measure => simp [intOf]; omega
    · obtain rfl : j = c + 1 := by omega
      by_cases h8 : c + 1 ≤ 8
      · have he : errOf (c + 1) = 0 := by
          have : Nat.ble (c + 1) 8 = true := by rwa [Nat.ble_eq]
          simp [errOf, this]
        rw [he] at hpa
        go_wp2_with (go_at_call 20; refine (hpa _ hb).mono ?_; rintro e w' ⟨⟨a, s, p0, l0, c0, p1, l1, c1, p2, l2, c2, p3, l3, c3, p4, l4, c4, p5, l5, c5, p6, l6, c6, b, rfl⟩, hb2⟩)
        go_ret
        exact ⟨rfl, (hb.trans (hb2.mono hb.size)).alloc (Nat.le_trans hb.size hb2.size) _⟩
      · have he : errOf (c + 1) = 17 := by
          have : Nat.ble (c + 1) 8 = false := by rw [Bool.eq_false_iff]; intro e; rw [Nat.ble_eq] at e; omega
          simp [errOf, this]
        rw [he] at hpa
        go_wp2_with (go_at_call 20; refine (hpa _ hb).mono ?_; rintro e w' ⟨⟨a, s, p0, l0, c0, p1, l1, c1, p2, l2, c2, p3, l3, c3, p4, l4, c4, p5, l5, c5, p6, l6, c6, b, rfl⟩, hb2⟩)
        go_ret
        exact ⟨rfl, (hb.trans (hb2.mono hb.size)).alloc (Nat.le_trans hb.size hb2.size) _⟩
end Go.Proofs.YtfkhhbjdlgklnaaGreatDoor

/- The sql seat: SqlCounts walked, kind 5; Parse by its contract. -/
namespace Go.Proofs.YtfkhhbjdlgklnaaGreatDoor
open Go Go.RowKit
def tA5 : List UInt8 := [83, 69, 76, 69, 67, 84, 32, 42, 32, 70, 82, 79, 77, 32, 116, 32, 79, 82, 68, 69, 82, 32, 66, 89, 32]
def tB5 : List UInt8 := [97]
def tM5 : List UInt8 := [44, 32]
def tD5 : List UInt8 := []
set_option maxRecDepth 100000 in
theorem walk5 {w : World} (n k : Int) (hn0 : 0 ≤ n) (hn : n ≤ 255) (hk0 : 0 ≤ k) (hk : k ≤ 255) (hk6 : k % 6 = 5) (c : Nat) (hc : c ≤ 10) (hnc : n % 11 = (c : Int)) (hsp : Calls Tryz.prog 19 #[] w fun e w' => e = .returned (.bool true) ∧ Below w.heap.size w w')
    (hpa : ∀ w', Below w.heap.size w w' → Calls Tryz.prog 20 #[.string (⟨⟨pre tA5 tB5 tM5 (c + 1)⟩⟩ ++ ⟨⟨tD5⟩⟩)] w' fun x w'' => ParsedTo (atOf tA5 tB5 tM5 (c + 1)) (errOf (c + 1)) x ∧ Below w'.heap.size w' w'') :
    Calls Tryz.prog 7 #[.int .u8 n, .int .u8 k] w fun e w' => e = .returned (.bool true) ∧ Below w.heap.size w w' := by
  go_enter Tryz.func7, Tryz.ntmps7
  go_wp2_with (go_at_call 19; refine hsp.mono ?_; rintro e w' ⟨rfl, hb⟩)
  go_loop [10, 11, 12] (fun s at_ i => ∃ j : Nat, j ≤ c + 1 ∧ i = .int .i64 j ∧ s = .string ⟨⟨pre tA5 tB5 tM5 j⟩⟩ ∧ at_ = .int .i64 (atOf tA5 tB5 tM5 j : Nat)) (fun _ _ i => c + 1 - (intOf i).toNat)
  case atStart => exact ⟨0, Nat.zero_le _, rfl, rfl, rfl⟩
  case round =>
    obtain ⟨j, hj, rfl, rfl, rfl⟩ := hrel
    have hl := pre_len tA5 tB5 tM5 (by decide) (by decide) (by decide) j
    have hs1 : ¬ 9223372036854775807 < (pre tA5 tB5 tM5 j).length + 2 := by omega
    have hs2 : ¬ 9223372036854775807 < (pre tA5 tB5 tM5 j).length + 2 + 1 := by omega
    have hs3 : ¬ 9223372036854775807 < (pre tA5 tB5 tM5 j).length + 1 := by omega
    have hs4 : ¬ 9223372036854775807 < (pre tA5 tB5 tM5 j).length + 0 := by omega
    clear hl
    by_cases hlt : j < c + 1
    · by_cases h0 : j = 0
      · subst h0
        go_wp2
        go_round
        case rel => exact ⟨1, by omega, rfl, rfl, rfl⟩
        case measure => simp [intOf]
      · have hp : 0 < j := by omega
        by_cases h8 : j = 8
        · subst h8
          go_wp2
          go_round
          case rel => exact ⟨9, by omega, rfl, by rw [pre_next _ _ _ 8 (by omega), ← app, ← app]; rfl, by rw [atOf_high _ _ _ 9 (by omega)]; simp [tM5]⟩
          case measure => simp [intOf]; omega
        · go_wp2
          go_round
          case rel =>
            refine ⟨j + 1, by omega, by go_num, by rw [pre_next _ _ _ j hp, ← app, ← app]; rfl, ?_⟩
            by_cases h9 : j ≤ 8
            · rw [atOf_low _ _ _ _ h9, atOf_low _ _ _ _ (by omega)]
            · rw [atOf_high _ _ _ _ (by omega), atOf_high _ _ _ _ (by omega)]
          case measure => simp [intOf]; omega
    · obtain rfl : j = c + 1 := by omega
      by_cases h8 : c + 1 ≤ 8
      · have he : errOf (c + 1) = 0 := by
          have : Nat.ble (c + 1) 8 = true := by rwa [Nat.ble_eq]
          simp [errOf, this]
        rw [he] at hpa
        go_wp2_with (go_at_call 20; refine (hpa _ hb).mono ?_; rintro e w' ⟨⟨a, s, p0, l0, c0, p1, l1, c1, p2, l2, c2, p3, l3, c3, p4, l4, c4, p5, l5, c5, p6, l6, c6, b, rfl⟩, hb2⟩)
        go_ret
        exact ⟨rfl, (hb.trans (hb2.mono hb.size)).alloc (Nat.le_trans hb.size hb2.size) _⟩
      · have he : errOf (c + 1) = 17 := by
          have : Nat.ble (c + 1) 8 = false := by rw [Bool.eq_false_iff]; intro e; rw [Nat.ble_eq] at e; omega
          simp [errOf, this]
        rw [he] at hpa
        go_wp2_with (go_at_call 20; refine (hpa _ hb).mono ?_; rintro e w' ⟨⟨a, s, p0, l0, c0, p1, l1, c1, p2, l2, c2, p3, l3, c3, p4, l4, c4, p5, l5, c5, p6, l6, c6, b, rfl⟩, hb2⟩)
        go_ret
        exact ⟨rfl, (hb.trans (hb2.mono hb.size)).alloc (Nat.le_trans hb.size hb2.size) _⟩
end Go.Proofs.YtfkhhbjdlgklnaaGreatDoor
