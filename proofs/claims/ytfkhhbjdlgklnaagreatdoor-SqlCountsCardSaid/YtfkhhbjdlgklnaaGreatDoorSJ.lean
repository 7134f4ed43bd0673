/- The sql seat: Parse by its contract, at each text of SqlCounts. -/
import Derived.Test.YtfkhhbjdlgklnaaGreatDoorSW
import Derived.Test.YtfkhhbjdlgklnaaGreatDoorP0a
import Derived.Test.YtfkhhbjdlgklnaaGreatDoorP0b
import Derived.Test.YtfkhhbjdlgklnaaGreatDoorP1a
import Derived.Test.YtfkhhbjdlgklnaaGreatDoorP1b
import Derived.Test.YtfkhhbjdlgklnaaGreatDoorP2a
import Derived.Test.YtfkhhbjdlgklnaaGreatDoorP2b
import Derived.Test.YtfkhhbjdlgklnaaGreatDoorP3a
import Derived.Test.YtfkhhbjdlgklnaaGreatDoorP3b
import Derived.Test.YtfkhhbjdlgklnaaGreatDoorP4a
import Derived.Test.YtfkhhbjdlgklnaaGreatDoorP4b
import Derived.Test.YtfkhhbjdlgklnaaGreatDoorP5a
import Derived.Test.YtfkhhbjdlgklnaaGreatDoorP5b
namespace Go.Proofs.YtfkhhbjdlgklnaaGreatDoor
open Go Go.AM Go.RowKit

theorem q0_1 {γ : Gam} {w : World} (r : RO γ w.heap.size heap0 w) (hG : cy.GlobOk γ) : Calls Tryz.prog 20 #[.string (⟨⟨pre tA0 tB0 tM0 1⟩⟩ ++ ⟨⟨tD0⟩⟩)] w fun x w' => ParsedTo (atOf tA0 tB0 tM0 1) (errOf 1) x ∧ Below w.heap.size w w' := by
  rw [append_bl, show appR (bl ⟨⟨pre tA0 tB0 tM0 1⟩⟩) (bl ⟨⟨tD0⟩⟩) = x0_1 from by kernel_rfl, show atOf tA0 tB0 tM0 1 = 0 from by kernel_rfl, show errOf 1 = 0 from by kernel_rfl]
  exact parse_calls r hG p0_1
theorem q0_2 {γ : Gam} {w : World} (r : RO γ w.heap.size heap0 w) (hG : cy.GlobOk γ) : Calls Tryz.prog 20 #[.string (⟨⟨pre tA0 tB0 tM0 2⟩⟩ ++ ⟨⟨tD0⟩⟩)] w fun x w' => ParsedTo (atOf tA0 tB0 tM0 2) (errOf 2) x ∧ Below w.heap.size w w' := by
  rw [append_bl, show appR (bl ⟨⟨pre tA0 tB0 tM0 2⟩⟩) (bl ⟨⟨tD0⟩⟩) = x0_2 from by kernel_rfl, show atOf tA0 tB0 tM0 2 = 0 from by kernel_rfl, show errOf 2 = 0 from by kernel_rfl]
  exact parse_calls r hG p0_2
theorem q0_3 {γ : Gam} {w : World} (r : RO γ w.heap.size heap0 w) (hG : cy.GlobOk γ) : Calls Tryz.prog 20 #[.string (⟨⟨pre tA0 tB0 tM0 3⟩⟩ ++ ⟨⟨tD0⟩⟩)] w fun x w' => ParsedTo (atOf tA0 tB0 tM0 3) (errOf 3) x ∧ Below w.heap.size w w' := by
  rw [append_bl, show appR (bl ⟨⟨pre tA0 tB0 tM0 3⟩⟩) (bl ⟨⟨tD0⟩⟩) = x0_3 from by kernel_rfl, show atOf tA0 tB0 tM0 3 = 0 from by kernel_rfl, show errOf 3 = 0 from by kernel_rfl]
  exact parse_calls r hG p0_3
theorem q0_4 {γ : Gam} {w : World} (r : RO γ w.heap.size heap0 w) (hG : cy.GlobOk γ) : Calls Tryz.prog 20 #[.string (⟨⟨pre tA0 tB0 tM0 4⟩⟩ ++ ⟨⟨tD0⟩⟩)] w fun x w' => ParsedTo (atOf tA0 tB0 tM0 4) (errOf 4) x ∧ Below w.heap.size w w' := by
  rw [append_bl, show appR (bl ⟨⟨pre tA0 tB0 tM0 4⟩⟩) (bl ⟨⟨tD0⟩⟩) = x0_4 from by kernel_rfl, show atOf tA0 tB0 tM0 4 = 0 from by kernel_rfl, show errOf 4 = 0 from by kernel_rfl]
  exact parse_calls r hG p0_4
theorem q0_5 {γ : Gam} {w : World} (r : RO γ w.heap.size heap0 w) (hG : cy.GlobOk γ) : Calls Tryz.prog 20 #[.string (⟨⟨pre tA0 tB0 tM0 5⟩⟩ ++ ⟨⟨tD0⟩⟩)] w fun x w' => ParsedTo (atOf tA0 tB0 tM0 5) (errOf 5) x ∧ Below w.heap.size w w' := by
  rw [append_bl, show appR (bl ⟨⟨pre tA0 tB0 tM0 5⟩⟩) (bl ⟨⟨tD0⟩⟩) = x0_5 from by kernel_rfl, show atOf tA0 tB0 tM0 5 = 0 from by kernel_rfl, show errOf 5 = 0 from by kernel_rfl]
  exact parse_calls r hG p0_5
theorem q0_6 {γ : Gam} {w : World} (r : RO γ w.heap.size heap0 w) (hG : cy.GlobOk γ) : Calls Tryz.prog 20 #[.string (⟨⟨pre tA0 tB0 tM0 6⟩⟩ ++ ⟨⟨tD0⟩⟩)] w fun x w' => ParsedTo (atOf tA0 tB0 tM0 6) (errOf 6) x ∧ Below w.heap.size w w' := by
  rw [append_bl, show appR (bl ⟨⟨pre tA0 tB0 tM0 6⟩⟩) (bl ⟨⟨tD0⟩⟩) = x0_6 from by kernel_rfl, show atOf tA0 tB0 tM0 6 = 0 from by kernel_rfl, show errOf 6 = 0 from by kernel_rfl]
  exact parse_calls r hG p0_6
theorem q0_7 {γ : Gam} {w : World} (r : RO γ w.heap.size heap0 w) (hG : cy.GlobOk γ) : Calls Tryz.prog 20 #[.string (⟨⟨pre tA0 tB0 tM0 7⟩⟩ ++ ⟨⟨tD0⟩⟩)] w fun x w' => ParsedTo (atOf tA0 tB0 tM0 7) (errOf 7) x ∧ Below w.heap.size w w' := by
  rw [append_bl, show appR (bl ⟨⟨pre tA0 tB0 tM0 7⟩⟩) (bl ⟨⟨tD0⟩⟩) = x0_7 from by kernel_rfl, show atOf tA0 tB0 tM0 7 = 0 from by kernel_rfl, show errOf 7 = 0 from by kernel_rfl]
  exact parse_calls r hG p0_7
theorem q0_8 {γ : Gam} {w : World} (r : RO γ w.heap.size heap0 w) (hG : cy.GlobOk γ) : Calls Tryz.prog 20 #[.string (⟨⟨pre tA0 tB0 tM0 8⟩⟩ ++ ⟨⟨tD0⟩⟩)] w fun x w' => ParsedTo (atOf tA0 tB0 tM0 8) (errOf 8) x ∧ Below w.heap.size w w' := by
  rw [append_bl, show appR (bl ⟨⟨pre tA0 tB0 tM0 8⟩⟩) (bl ⟨⟨tD0⟩⟩) = x0_8 from by kernel_rfl, show atOf tA0 tB0 tM0 8 = 0 from by kernel_rfl, show errOf 8 = 0 from by kernel_rfl]
  exact parse_calls r hG p0_8
theorem q0_9 {γ : Gam} {w : World} (r : RO γ w.heap.size heap0 w) (hG : cy.GlobOk γ) : Calls Tryz.prog 20 #[.string (⟨⟨pre tA0 tB0 tM0 9⟩⟩ ++ ⟨⟨tD0⟩⟩)] w fun x w' => ParsedTo (atOf tA0 tB0 tM0 9) (errOf 9) x ∧ Below w.heap.size w w' := by
  rw [append_bl, show appR (bl ⟨⟨pre tA0 tB0 tM0 9⟩⟩) (bl ⟨⟨tD0⟩⟩) = x0_9 from by kernel_rfl, show atOf tA0 tB0 tM0 9 = 72 from by kernel_rfl, show errOf 9 = 17 from by kernel_rfl]
  exact parse_calls r hG p0_9
theorem q0_10 {γ : Gam} {w : World} (r : RO γ w.heap.size heap0 w) (hG : cy.GlobOk γ) : Calls Tryz.prog 20 #[.string (⟨⟨pre tA0 tB0 tM0 10⟩⟩ ++ ⟨⟨tD0⟩⟩)] w fun x w' => ParsedTo (atOf tA0 tB0 tM0 10) (errOf 10) x ∧ Below w.heap.size w w' := by
  rw [append_bl, show appR (bl ⟨⟨pre tA0 tB0 tM0 10⟩⟩) (bl ⟨⟨tD0⟩⟩) = x0_10 from by kernel_rfl, show atOf tA0 tB0 tM0 10 = 72 from by kernel_rfl, show errOf 10 = 17 from by kernel_rfl]
  exact parse_calls r hG p0_10
theorem q0_11 {γ : Gam} {w : World} (r : RO γ w.heap.size heap0 w) (hG : cy.GlobOk γ) : Calls Tryz.prog 20 #[.string (⟨⟨pre tA0 tB0 tM0 11⟩⟩ ++ ⟨⟨tD0⟩⟩)] w fun x w' => ParsedTo (atOf tA0 tB0 tM0 11) (errOf 11) x ∧ Below w.heap.size w w' := by
  rw [append_bl, show appR (bl ⟨⟨pre tA0 tB0 tM0 11⟩⟩) (bl ⟨⟨tD0⟩⟩) = x0_11 from by kernel_rfl, show atOf tA0 tB0 tM0 11 = 72 from by kernel_rfl, show errOf 11 = 17 from by kernel_rfl]
  exact parse_calls r hG p0_11
theorem hp0 {γ : Gam} {w : World} (r : RO γ w.heap.size heap0 w) (hG : cy.GlobOk γ) (c : Nat) (hc : c ≤ 10) : Calls Tryz.prog 20 #[.string (⟨⟨pre tA0 tB0 tM0 (c + 1)⟩⟩ ++ ⟨⟨tD0⟩⟩)] w fun x w' => ParsedTo (atOf tA0 tB0 tM0 (c + 1)) (errOf (c + 1)) x ∧ Below w.heap.size w w' := by
  match c, hc with
  | 0, _ => exact q0_1 r hG
  | 1, _ => exact q0_2 r hG
  | 2, _ => exact q0_3 r hG
  | 3, _ => exact q0_4 r hG
  | 4, _ => exact q0_5 r hG
  | 5, _ => exact q0_6 r hG
  | 6, _ => exact q0_7 r hG
  | 7, _ => exact q0_8 r hG
  | 8, _ => exact q0_9 r hG
  | 9, _ => exact q0_10 r hG
  | 10, _ => exact q0_11 r hG
  | n + 11, h => omega
theorem q1_1 {γ : Gam} {w : World} (r : RO γ w.heap.size heap0 w) (hG : cy.GlobOk γ) : Calls Tryz.prog 20 #[.string (⟨⟨pre tA1 tB1 tM1 1⟩⟩ ++ ⟨⟨tD1⟩⟩)] w fun x w' => ParsedTo (atOf tA1 tB1 tM1 1) (errOf 1) x ∧ Below w.heap.size w w' := by
  rw [append_bl, show appR (bl ⟨⟨pre tA1 tB1 tM1 1⟩⟩) (bl ⟨⟨tD1⟩⟩) = x1_1 from by kernel_rfl, show atOf tA1 tB1 tM1 1 = 0 from by kernel_rfl, show errOf 1 = 0 from by kernel_rfl]
  exact parse_calls r hG p1_1
theorem q1_2 {γ : Gam} {w : World} (r : RO γ w.heap.size heap0 w) (hG : cy.GlobOk γ) : Calls Tryz.prog 20 #[.string (⟨⟨pre tA1 tB1 tM1 2⟩⟩ ++ ⟨⟨tD1⟩⟩)] w fun x w' => ParsedTo (atOf tA1 tB1 tM1 2) (errOf 2) x ∧ Below w.heap.size w w' := by
  rw [append_bl, show appR (bl ⟨⟨pre tA1 tB1 tM1 2⟩⟩) (bl ⟨⟨tD1⟩⟩) = x1_2 from by kernel_rfl, show atOf tA1 tB1 tM1 2 = 0 from by kernel_rfl, show errOf 2 = 0 from by kernel_rfl]
  exact parse_calls r hG p1_2
theorem q1_3 {γ : Gam} {w : World} (r : RO γ w.heap.size heap0 w) (hG : cy.GlobOk γ) : Calls Tryz.prog 20 #[.string (⟨⟨pre tA1 tB1 tM1 3⟩⟩ ++ ⟨⟨tD1⟩⟩)] w fun x w' => ParsedTo (atOf tA1 tB1 tM1 3) (errOf 3) x ∧ Below w.heap.size w w' := by
  rw [append_bl, show appR (bl ⟨⟨pre tA1 tB1 tM1 3⟩⟩) (bl ⟨⟨tD1⟩⟩) = x1_3 from by kernel_rfl, show atOf tA1 tB1 tM1 3 = 0 from by kernel_rfl, show errOf 3 = 0 from by kernel_rfl]
  exact parse_calls r hG p1_3
theorem q1_4 {γ : Gam} {w : World} (r : RO γ w.heap.size heap0 w) (hG : cy.GlobOk γ) : Calls Tryz.prog 20 #[.string (⟨⟨pre tA1 tB1 tM1 4⟩⟩ ++ ⟨⟨tD1⟩⟩)] w fun x w' => ParsedTo (atOf tA1 tB1 tM1 4) (errOf 4) x ∧ Below w.heap.size w w' := by
  rw [append_bl, show appR (bl ⟨⟨pre tA1 tB1 tM1 4⟩⟩) (bl ⟨⟨tD1⟩⟩) = x1_4 from by kernel_rfl, show atOf tA1 tB1 tM1 4 = 0 from by kernel_rfl, show errOf 4 = 0 from by kernel_rfl]
  exact parse_calls r hG p1_4
theorem q1_5 {γ : Gam} {w : World} (r : RO γ w.heap.size heap0 w) (hG : cy.GlobOk γ) : Calls Tryz.prog 20 #[.string (⟨⟨pre tA1 tB1 tM1 5⟩⟩ ++ ⟨⟨tD1⟩⟩)] w fun x w' => ParsedTo (atOf tA1 tB1 tM1 5) (errOf 5) x ∧ Below w.heap.size w w' := by
  rw [append_bl, show appR (bl ⟨⟨pre tA1 tB1 tM1 5⟩⟩) (bl ⟨⟨tD1⟩⟩) = x1_5 from by kernel_rfl, show atOf tA1 tB1 tM1 5 = 0 from by kernel_rfl, show errOf 5 = 0 from by kernel_rfl]
  exact parse_calls r hG p1_5
theorem q1_6 {γ : Gam} {w : World} (r : RO γ w.heap.size heap0 w) (hG : cy.GlobOk γ) : Calls Tryz.prog 20 #[.string (⟨⟨pre tA1 tB1 tM1 6⟩⟩ ++ ⟨⟨tD1⟩⟩)] w fun x w' => ParsedTo (atOf tA1 tB1 tM1 6) (errOf 6) x ∧ Below w.heap.size w w' := by
  rw [append_bl, show appR (bl ⟨⟨pre tA1 tB1 tM1 6⟩⟩) (bl ⟨⟨tD1⟩⟩) = x1_6 from by kernel_rfl, show atOf tA1 tB1 tM1 6 = 0 from by kernel_rfl, show errOf 6 = 0 from by kernel_rfl]
  exact parse_calls r hG p1_6
theorem q1_7 {γ : Gam} {w : World} (r : RO γ w.heap.size heap0 w) (hG : cy.GlobOk γ) : Calls Tryz.prog 20 #[.string (⟨⟨pre tA1 tB1 tM1 7⟩⟩ ++ ⟨⟨tD1⟩⟩)] w fun x w' => ParsedTo (atOf tA1 tB1 tM1 7) (errOf 7) x ∧ Below w.heap.size w w' := by
  rw [append_bl, show appR (bl ⟨⟨pre tA1 tB1 tM1 7⟩⟩) (bl ⟨⟨tD1⟩⟩) = x1_7 from by kernel_rfl, show atOf tA1 tB1 tM1 7 = 0 from by kernel_rfl, show errOf 7 = 0 from by kernel_rfl]
  exact parse_calls r hG p1_7
theorem q1_8 {γ : Gam} {w : World} (r : RO γ w.heap.size heap0 w) (hG : cy.GlobOk γ) : Calls Tryz.prog 20 #[.string (⟨⟨pre tA1 tB1 tM1 8⟩⟩ ++ ⟨⟨tD1⟩⟩)] w fun x w' => ParsedTo (atOf tA1 tB1 tM1 8) (errOf 8) x ∧ Below w.heap.size w w' := by
  rw [append_bl, show appR (bl ⟨⟨pre tA1 tB1 tM1 8⟩⟩) (bl ⟨⟨tD1⟩⟩) = x1_8 from by kernel_rfl, show atOf tA1 tB1 tM1 8 = 0 from by kernel_rfl, show errOf 8 = 0 from by kernel_rfl]
  exact parse_calls r hG p1_8
theorem q1_9 {γ : Gam} {w : World} (r : RO γ w.heap.size heap0 w) (hG : cy.GlobOk γ) : Calls Tryz.prog 20 #[.string (⟨⟨pre tA1 tB1 tM1 9⟩⟩ ++ ⟨⟨tD1⟩⟩)] w fun x w' => ParsedTo (atOf tA1 tB1 tM1 9) (errOf 9) x ∧ Below w.heap.size w w' := by
  rw [append_bl, show appR (bl ⟨⟨pre tA1 tB1 tM1 9⟩⟩) (bl ⟨⟨tD1⟩⟩) = x1_9 from by kernel_rfl, show atOf tA1 tB1 tM1 9 = 46 from by kernel_rfl, show errOf 9 = 17 from by kernel_rfl]
  exact parse_calls r hG p1_9
theorem q1_10 {γ : Gam} {w : World} (r : RO γ w.heap.size heap0 w) (hG : cy.GlobOk γ) : Calls Tryz.prog 20 #[.string (⟨⟨pre tA1 tB1 tM1 10⟩⟩ ++ ⟨⟨tD1⟩⟩)] w fun x w' => ParsedTo (atOf tA1 tB1 tM1 10) (errOf 10) x ∧ Below w.heap.size w w' := by
  rw [append_bl, show appR (bl ⟨⟨pre tA1 tB1 tM1 10⟩⟩) (bl ⟨⟨tD1⟩⟩) = x1_10 from by kernel_rfl, show atOf tA1 tB1 tM1 10 = 46 from by kernel_rfl, show errOf 10 = 17 from by kernel_rfl]
  exact parse_calls r hG p1_10
theorem q1_11 {γ : Gam} {w : World} (r : RO γ w.heap.size heap0 w) (hG : cy.GlobOk γ) : Calls Tryz.prog 20 #[.string (⟨⟨pre tA1 tB1 tM1 11⟩⟩ ++ ⟨⟨tD1⟩⟩)] w fun x w' => ParsedTo (atOf tA1 tB1 tM1 11) (errOf 11) x ∧ Below w.heap.size w w' := by
  rw [append_bl, show appR (bl ⟨⟨pre tA1 tB1 tM1 11⟩⟩) (bl ⟨⟨tD1⟩⟩) = x1_11 from by kernel_rfl, show atOf tA1 tB1 tM1 11 = 46 from by kernel_rfl, show errOf 11 = 17 from by kernel_rfl]
  exact parse_calls r hG p1_11
theorem hp1 {γ : Gam} {w : World} (r : RO γ w.heap.size heap0 w) (hG : cy.GlobOk γ) (c : Nat) (hc : c ≤ 10) : Calls Tryz.prog 20 #[.string (⟨⟨pre tA1 tB1 tM1 (c + 1)⟩⟩ ++ ⟨⟨tD1⟩⟩)] w fun x w' => ParsedTo (atOf tA1 tB1 tM1 (c + 1)) (errOf (c + 1)) x ∧ Below w.heap.size w w' := by
  match c, hc with
  | 0, _ => exact q1_1 r hG
  | 1, _ => exact q1_2 r hG
  | 2, _ => exact q1_3 r hG
  | 3, _ => exact q1_4 r hG
  | 4, _ => exact q1_5 r hG
  | 5, _ => exact q1_6 r hG
  | 6, _ => exact q1_7 r hG
  | 7, _ => exact q1_8 r hG
  | 8, _ => exact q1_9 r hG
  | 9, _ => exact q1_10 r hG
  | 10, _ => exact q1_11 r hG
  | n + 11, h => omega
theorem q2_1 {γ : Gam} {w : World} (r : RO γ w.heap.size heap0 w) (hG : cy.GlobOk γ) : Calls Tryz.prog 20 #[.string (⟨⟨pre tA2 tB2 tM2 1⟩⟩ ++ ⟨⟨tD2⟩⟩)] w fun x w' => ParsedTo (atOf tA2 tB2 tM2 1) (errOf 1) x ∧ Below w.heap.size w w' := by
  rw [append_bl, show appR (bl ⟨⟨pre tA2 tB2 tM2 1⟩⟩) (bl ⟨⟨tD2⟩⟩) = x2_1 from by kernel_rfl, show atOf tA2 tB2 tM2 1 = 0 from by kernel_rfl, show errOf 1 = 0 from by kernel_rfl]
  exact parse_calls r hG p2_1
theorem q2_2 {γ : Gam} {w : World} (r : RO γ w.heap.size heap0 w) (hG : cy.GlobOk γ) : Calls Tryz.prog 20 #[.string (⟨⟨pre tA2 tB2 tM2 2⟩⟩ ++ ⟨⟨tD2⟩⟩)] w fun x w' => ParsedTo (atOf tA2 tB2 tM2 2) (errOf 2) x ∧ Below w.heap.size w w' := by
  rw [append_bl, show appR (bl ⟨⟨pre tA2 tB2 tM2 2⟩⟩) (bl ⟨⟨tD2⟩⟩) = x2_2 from by kernel_rfl, show atOf tA2 tB2 tM2 2 = 0 from by kernel_rfl, show errOf 2 = 0 from by kernel_rfl]
  exact parse_calls r hG p2_2
theorem q2_3 {γ : Gam} {w : World} (r : RO γ w.heap.size heap0 w) (hG : cy.GlobOk γ) : Calls Tryz.prog 20 #[.string (⟨⟨pre tA2 tB2 tM2 3⟩⟩ ++ ⟨⟨tD2⟩⟩)] w fun x w' => ParsedTo (atOf tA2 tB2 tM2 3) (errOf 3) x ∧ Below w.heap.size w w' := by
  rw [append_bl, show appR (bl ⟨⟨pre tA2 tB2 tM2 3⟩⟩) (bl ⟨⟨tD2⟩⟩) = x2_3 from by kernel_rfl, show atOf tA2 tB2 tM2 3 = 0 from by kernel_rfl, show errOf 3 = 0 from by kernel_rfl]
  exact parse_calls r hG p2_3
theorem q2_4 {γ : Gam} {w : World} (r : RO γ w.heap.size heap0 w) (hG : cy.GlobOk γ) : Calls Tryz.prog 20 #[.string (⟨⟨pre tA2 tB2 tM2 4⟩⟩ ++ ⟨⟨tD2⟩⟩)] w fun x w' => ParsedTo (atOf tA2 tB2 tM2 4) (errOf 4) x ∧ Below w.heap.size w w' := by
  rw [append_bl, show appR (bl ⟨⟨pre tA2 tB2 tM2 4⟩⟩) (bl ⟨⟨tD2⟩⟩) = x2_4 from by kernel_rfl, show atOf tA2 tB2 tM2 4 = 0 from by kernel_rfl, show errOf 4 = 0 from by kernel_rfl]
  exact parse_calls r hG p2_4
theorem q2_5 {γ : Gam} {w : World} (r : RO γ w.heap.size heap0 w) (hG : cy.GlobOk γ) : Calls Tryz.prog 20 #[.string (⟨⟨pre tA2 tB2 tM2 5⟩⟩ ++ ⟨⟨tD2⟩⟩)] w fun x w' => ParsedTo (atOf tA2 tB2 tM2 5) (errOf 5) x ∧ Below w.heap.size w w' := by
  rw [append_bl, show appR (bl ⟨⟨pre tA2 tB2 tM2 5⟩⟩) (bl ⟨⟨tD2⟩⟩) = x2_5 from by kernel_rfl, show atOf tA2 tB2 tM2 5 = 0 from by kernel_rfl, show errOf 5 = 0 from by kernel_rfl]
  exact parse_calls r hG p2_5
theorem q2_6 {γ : Gam} {w : World} (r : RO γ w.heap.size heap0 w) (hG : cy.GlobOk γ) : Calls Tryz.prog 20 #[.string (⟨⟨pre tA2 tB2 tM2 6⟩⟩ ++ ⟨⟨tD2⟩⟩)] w fun x w' => ParsedTo (atOf tA2 tB2 tM2 6) (errOf 6) x ∧ Below w.heap.size w w' := by
  rw [append_bl, show appR (bl ⟨⟨pre tA2 tB2 tM2 6⟩⟩) (bl ⟨⟨tD2⟩⟩) = x2_6 from by kernel_rfl, show atOf tA2 tB2 tM2 6 = 0 from by kernel_rfl, show errOf 6 = 0 from by kernel_rfl]
  exact parse_calls r hG p2_6
theorem q2_7 {γ : Gam} {w : World} (r : RO γ w.heap.size heap0 w) (hG : cy.GlobOk γ) : Calls Tryz.prog 20 #[.string (⟨⟨pre tA2 tB2 tM2 7⟩⟩ ++ ⟨⟨tD2⟩⟩)] w fun x w' => ParsedTo (atOf tA2 tB2 tM2 7) (errOf 7) x ∧ Below w.heap.size w w' := by
  rw [append_bl, show appR (bl ⟨⟨pre tA2 tB2 tM2 7⟩⟩) (bl ⟨⟨tD2⟩⟩) = x2_7 from by kernel_rfl, show atOf tA2 tB2 tM2 7 = 0 from by kernel_rfl, show errOf 7 = 0 from by kernel_rfl]
  exact parse_calls r hG p2_7
theorem q2_8 {γ : Gam} {w : World} (r : RO γ w.heap.size heap0 w) (hG : cy.GlobOk γ) : Calls Tryz.prog 20 #[.string (⟨⟨pre tA2 tB2 tM2 8⟩⟩ ++ ⟨⟨tD2⟩⟩)] w fun x w' => ParsedTo (atOf tA2 tB2 tM2 8) (errOf 8) x ∧ Below w.heap.size w w' := by
  rw [append_bl, show appR (bl ⟨⟨pre tA2 tB2 tM2 8⟩⟩) (bl ⟨⟨tD2⟩⟩) = x2_8 from by kernel_rfl, show atOf tA2 tB2 tM2 8 = 0 from by kernel_rfl, show errOf 8 = 0 from by kernel_rfl]
  exact parse_calls r hG p2_8
theorem q2_9 {γ : Gam} {w : World} (r : RO γ w.heap.size heap0 w) (hG : cy.GlobOk γ) : Calls Tryz.prog 20 #[.string (⟨⟨pre tA2 tB2 tM2 9⟩⟩ ++ ⟨⟨tD2⟩⟩)] w fun x w' => ParsedTo (atOf tA2 tB2 tM2 9) (errOf 9) x ∧ Below w.heap.size w w' := by
  rw [append_bl, show appR (bl ⟨⟨pre tA2 tB2 tM2 9⟩⟩) (bl ⟨⟨tD2⟩⟩) = x2_9 from by kernel_rfl, show atOf tA2 tB2 tM2 9 = 61 from by kernel_rfl, show errOf 9 = 17 from by kernel_rfl]
  exact parse_calls r hG p2_9
theorem q2_10 {γ : Gam} {w : World} (r : RO γ w.heap.size heap0 w) (hG : cy.GlobOk γ) : Calls Tryz.prog 20 #[.string (⟨⟨pre tA2 tB2 tM2 10⟩⟩ ++ ⟨⟨tD2⟩⟩)] w fun x w' => ParsedTo (atOf tA2 tB2 tM2 10) (errOf 10) x ∧ Below w.heap.size w w' := by
  rw [append_bl, show appR (bl ⟨⟨pre tA2 tB2 tM2 10⟩⟩) (bl ⟨⟨tD2⟩⟩) = x2_10 from by kernel_rfl, show atOf tA2 tB2 tM2 10 = 61 from by kernel_rfl, show errOf 10 = 17 from by kernel_rfl]
  exact parse_calls r hG p2_10
theorem q2_11 {γ : Gam} {w : World} (r : RO γ w.heap.size heap0 w) (hG : cy.GlobOk γ) : Calls Tryz.prog 20 #[.string (⟨⟨pre tA2 tB2 tM2 11⟩⟩ ++ ⟨⟨tD2⟩⟩)] w fun x w' => ParsedTo (atOf tA2 tB2 tM2 11) (errOf 11) x ∧ Below w.heap.size w w' := by
  rw [append_bl, show appR (bl ⟨⟨pre tA2 tB2 tM2 11⟩⟩) (bl ⟨⟨tD2⟩⟩) = x2_11 from by kernel_rfl, show atOf tA2 tB2 tM2 11 = 61 from by kernel_rfl, show errOf 11 = 17 from by kernel_rfl]
  exact parse_calls r hG p2_11
theorem hp2 {γ : Gam} {w : World} (r : RO γ w.heap.size heap0 w) (hG : cy.GlobOk γ) (c : Nat) (hc : c ≤ 10) : Calls Tryz.prog 20 #[.string (⟨⟨pre tA2 tB2 tM2 (c + 1)⟩⟩ ++ ⟨⟨tD2⟩⟩)] w fun x w' => ParsedTo (atOf tA2 tB2 tM2 (c + 1)) (errOf (c + 1)) x ∧ Below w.heap.size w w' := by
  match c, hc with
  | 0, _ => exact q2_1 r hG
  | 1, _ => exact q2_2 r hG
  | 2, _ => exact q2_3 r hG
  | 3, _ => exact q2_4 r hG
  | 4, _ => exact q2_5 r hG
  | 5, _ => exact q2_6 r hG
  | 6, _ => exact q2_7 r hG
  | 7, _ => exact q2_8 r hG
  | 8, _ => exact q2_9 r hG
  | 9, _ => exact q2_10 r hG
  | 10, _ => exact q2_11 r hG
  | n + 11, h => omega
theorem q3_1 {γ : Gam} {w : World} (r : RO γ w.heap.size heap0 w) (hG : cy.GlobOk γ) : Calls Tryz.prog 20 #[.string (⟨⟨pre tA3 tB3 tM3 1⟩⟩ ++ ⟨⟨tD3⟩⟩)] w fun x w' => ParsedTo (atOf tA3 tB3 tM3 1) (errOf 1) x ∧ Below w.heap.size w w' := by
  rw [append_bl, show appR (bl ⟨⟨pre tA3 tB3 tM3 1⟩⟩) (bl ⟨⟨tD3⟩⟩) = x3_1 from by kernel_rfl, show atOf tA3 tB3 tM3 1 = 0 from by kernel_rfl, show errOf 1 = 0 from by kernel_rfl]
  exact parse_calls r hG p3_1
theorem q3_2 {γ : Gam} {w : World} (r : RO γ w.heap.size heap0 w) (hG : cy.GlobOk γ) : Calls Tryz.prog 20 #[.string (⟨⟨pre tA3 tB3 tM3 2⟩⟩ ++ ⟨⟨tD3⟩⟩)] w fun x w' => ParsedTo (atOf tA3 tB3 tM3 2) (errOf 2) x ∧ Below w.heap.size w w' := by
  rw [append_bl, show appR (bl ⟨⟨pre tA3 tB3 tM3 2⟩⟩) (bl ⟨⟨tD3⟩⟩) = x3_2 from by kernel_rfl, show atOf tA3 tB3 tM3 2 = 0 from by kernel_rfl, show errOf 2 = 0 from by kernel_rfl]
  exact parse_calls r hG p3_2
theorem q3_3 {γ : Gam} {w : World} (r : RO γ w.heap.size heap0 w) (hG : cy.GlobOk γ) : Calls Tryz.prog 20 #[.string (⟨⟨pre tA3 tB3 tM3 3⟩⟩ ++ ⟨⟨tD3⟩⟩)] w fun x w' => ParsedTo (atOf tA3 tB3 tM3 3) (errOf 3) x ∧ Below w.heap.size w w' := by
  rw [append_bl, show appR (bl ⟨⟨pre tA3 tB3 tM3 3⟩⟩) (bl ⟨⟨tD3⟩⟩) = x3_3 from by kernel_rfl, show atOf tA3 tB3 tM3 3 = 0 from by kernel_rfl, show errOf 3 = 0 from by kernel_rfl]
  exact parse_calls r hG p3_3
theorem q3_4 {γ : Gam} {w : World} (r : RO γ w.heap.size heap0 w) (hG : cy.GlobOk γ) : Calls Tryz.prog 20 #[.string (⟨⟨pre tA3 tB3 tM3 4⟩⟩ ++ ⟨⟨tD3⟩⟩)] w fun x w' => ParsedTo (atOf tA3 tB3 tM3 4) (errOf 4) x ∧ Below w.heap.size w w' := by
  rw [append_bl, show appR (bl ⟨⟨pre tA3 tB3 tM3 4⟩⟩) (bl ⟨⟨tD3⟩⟩) = x3_4 from by kernel_rfl, show atOf tA3 tB3 tM3 4 = 0 from by kernel_rfl, show errOf 4 = 0 from by kernel_rfl]
  exact parse_calls r hG p3_4
theorem q3_5 {γ : Gam} {w : World} (r : RO γ w.heap.size heap0 w) (hG : cy.GlobOk γ) : Calls Tryz.prog 20 #[.string (⟨⟨pre tA3 tB3 tM3 5⟩⟩ ++ ⟨⟨tD3⟩⟩)] w fun x w' => ParsedTo (atOf tA3 tB3 tM3 5) (errOf 5) x ∧ Below w.heap.size w w' := by
  rw [append_bl, show appR (bl ⟨⟨pre tA3 tB3 tM3 5⟩⟩) (bl ⟨⟨tD3⟩⟩) = x3_5 from by kernel_rfl, show atOf tA3 tB3 tM3 5 = 0 from by kernel_rfl, show errOf 5 = 0 from by kernel_rfl]
  exact parse_calls r hG p3_5
theorem q3_6 {γ : Gam} {w : World} (r : RO γ w.heap.size heap0 w) (hG : cy.GlobOk γ) : Calls Tryz.prog 20 #[.string (⟨⟨pre tA3 tB3 tM3 6⟩⟩ ++ ⟨⟨tD3⟩⟩)] w fun x w' => ParsedTo (atOf tA3 tB3 tM3 6) (errOf 6) x ∧ Below w.heap.size w w' := by
  rw [append_bl, show appR (bl ⟨⟨pre tA3 tB3 tM3 6⟩⟩) (bl ⟨⟨tD3⟩⟩) = x3_6 from by kernel_rfl, show atOf tA3 tB3 tM3 6 = 0 from by kernel_rfl, show errOf 6 = 0 from by kernel_rfl]
  exact parse_calls r hG p3_6
theorem q3_7 {γ : Gam} {w : World} (r : RO γ w.heap.size heap0 w) (hG : cy.GlobOk γ) : Calls Tryz.prog 20 #[.string (⟨⟨pre tA3 tB3 tM3 7⟩⟩ ++ ⟨⟨tD3⟩⟩)] w fun x w' => ParsedTo (atOf tA3 tB3 tM3 7) (errOf 7) x ∧ Below w.heap.size w w' := by
  rw [append_bl, show appR (bl ⟨⟨pre tA3 tB3 tM3 7⟩⟩) (bl ⟨⟨tD3⟩⟩) = x3_7 from by kernel_rfl, show atOf tA3 tB3 tM3 7 = 0 from by kernel_rfl, show errOf 7 = 0 from by kernel_rfl]
  exact parse_calls r hG p3_7
theorem q3_8 {γ : Gam} {w : World} (r : RO γ w.heap.size heap0 w) (hG : cy.GlobOk γ) : Calls Tryz.prog 20 #[.string (⟨⟨pre tA3 tB3 tM3 8⟩⟩ ++ ⟨⟨tD3⟩⟩)] w fun x w' => ParsedTo (atOf tA3 tB3 tM3 8) (errOf 8) x ∧ Below w.heap.size w w' := by
  rw [append_bl, show appR (bl ⟨⟨pre tA3 tB3 tM3 8⟩⟩) (bl ⟨⟨tD3⟩⟩) = x3_8 from by kernel_rfl, show atOf tA3 tB3 tM3 8 = 0 from by kernel_rfl, show errOf 8 = 0 from by kernel_rfl]
  exact parse_calls r hG p3_8
theorem q3_9 {γ : Gam} {w : World} (r : RO γ w.heap.size heap0 w) (hG : cy.GlobOk γ) : Calls Tryz.prog 20 #[.string (⟨⟨pre tA3 tB3 tM3 9⟩⟩ ++ ⟨⟨tD3⟩⟩)] w fun x w' => ParsedTo (atOf tA3 tB3 tM3 9) (errOf 9) x ∧ Below w.heap.size w w' := by
  rw [append_bl, show appR (bl ⟨⟨pre tA3 tB3 tM3 9⟩⟩) (bl ⟨⟨tD3⟩⟩) = x3_9 from by kernel_rfl, show atOf tA3 tB3 tM3 9 = 31 from by kernel_rfl, show errOf 9 = 17 from by kernel_rfl]
  exact parse_calls r hG p3_9
theorem q3_10 {γ : Gam} {w : World} (r : RO γ w.heap.size heap0 w) (hG : cy.GlobOk γ) : Calls Tryz.prog 20 #[.string (⟨⟨pre tA3 tB3 tM3 10⟩⟩ ++ ⟨⟨tD3⟩⟩)] w fun x w' => ParsedTo (atOf tA3 tB3 tM3 10) (errOf 10) x ∧ Below w.heap.size w w' := by
  rw [append_bl, show appR (bl ⟨⟨pre tA3 tB3 tM3 10⟩⟩) (bl ⟨⟨tD3⟩⟩) = x3_10 from by kernel_rfl, show atOf tA3 tB3 tM3 10 = 31 from by kernel_rfl, show errOf 10 = 17 from by kernel_rfl]
  exact parse_calls r hG p3_10
theorem q3_11 {γ : Gam} {w : World} (r : RO γ w.heap.size heap0 w) (hG : cy.GlobOk γ) : Calls Tryz.prog 20 #[.string (⟨⟨pre tA3 tB3 tM3 11⟩⟩ ++ ⟨⟨tD3⟩⟩)] w fun x w' => ParsedTo (atOf tA3 tB3 tM3 11) (errOf 11) x ∧ Below w.heap.size w w' := by
  rw [append_bl, show appR (bl ⟨⟨pre tA3 tB3 tM3 11⟩⟩) (bl ⟨⟨tD3⟩⟩) = x3_11 from by kernel_rfl, show atOf tA3 tB3 tM3 11 = 31 from by kernel_rfl, show errOf 11 = 17 from by kernel_rfl]
  exact parse_calls r hG p3_11
theorem hp3 {γ : Gam} {w : World} (r : RO γ w.heap.size heap0 w) (hG : cy.GlobOk γ) (c : Nat) (hc : c ≤ 10) : Calls Tryz.prog 20 #[.string (⟨⟨pre tA3 tB3 tM3 (c + 1)⟩⟩ ++ ⟨⟨tD3⟩⟩)] w fun x w' => ParsedTo (atOf tA3 tB3 tM3 (c + 1)) (errOf (c + 1)) x ∧ Below w.heap.size w w' := by
  match c, hc with
  | 0, _ => exact q3_1 r hG
  | 1, _ => exact q3_2 r hG
  | 2, _ => exact q3_3 r hG
  | 3, _ => exact q3_4 r hG
  | 4, _ => exact q3_5 r hG
  | 5, _ => exact q3_6 r hG
  | 6, _ => exact q3_7 r hG
  | 7, _ => exact q3_8 r hG
  | 8, _ => exact q3_9 r hG
  | 9, _ => exact q3_10 r hG
  | 10, _ => exact q3_11 r hG
  | n + 11, h => omega
theorem q4_1 {γ : Gam} {w : World} (r : RO γ w.heap.size heap0 w) (hG : cy.GlobOk γ) : Calls Tryz.prog 20 #[.string (⟨⟨pre tA4 tB4 tM4 1⟩⟩ ++ ⟨⟨tD4⟩⟩)] w fun x w' => ParsedTo (atOf tA4 tB4 tM4 1) (errOf 1) x ∧ Below w.heap.size w w' := by
  rw [append_bl, show appR (bl ⟨⟨pre tA4 tB4 tM4 1⟩⟩) (bl ⟨⟨tD4⟩⟩) = x4_1 from by kernel_rfl, show atOf tA4 tB4 tM4 1 = 0 from by kernel_rfl, show errOf 1 = 0 from by kernel_rfl]
  exact parse_calls r hG p4_1
theorem q4_2 {γ : Gam} {w : World} (r : RO γ w.heap.size heap0 w) (hG : cy.GlobOk γ) : Calls Tryz.prog 20 #[.string (⟨⟨pre tA4 tB4 tM4 2⟩⟩ ++ ⟨⟨tD4⟩⟩)] w fun x w' => ParsedTo (atOf tA4 tB4 tM4 2) (errOf 2) x ∧ Below w.heap.size w w' := by
  rw [append_bl, show appR (bl ⟨⟨pre tA4 tB4 tM4 2⟩⟩) (bl ⟨⟨tD4⟩⟩) = x4_2 from by kernel_rfl, show atOf tA4 tB4 tM4 2 = 0 from by kernel_rfl, show errOf 2 = 0 from by kernel_rfl]
  exact parse_calls r hG p4_2
theorem q4_3 {γ : Gam} {w : World} (r : RO γ w.heap.size heap0 w) (hG : cy.GlobOk γ) : Calls Tryz.prog 20 #[.string (⟨⟨pre tA4 tB4 tM4 3⟩⟩ ++ ⟨⟨tD4⟩⟩)] w fun x w' => ParsedTo (atOf tA4 tB4 tM4 3) (errOf 3) x ∧ Below w.heap.size w w' := by
  rw [append_bl, show appR (bl ⟨⟨pre tA4 tB4 tM4 3⟩⟩) (bl ⟨⟨tD4⟩⟩) = x4_3 from by kernel_rfl, show atOf tA4 tB4 tM4 3 = 0 from by kernel_rfl, show errOf 3 = 0 from by kernel_rfl]
  exact parse_calls r hG p4_3
theorem q4_4 {γ : Gam} {w : World} (r : RO γ w.heap.size heap0 w) (hG : cy.GlobOk γ) : Calls Tryz.prog 20 #[.string (⟨⟨pre tA4 tB4 tM4 4⟩⟩ ++ ⟨⟨tD4⟩⟩)] w fun x w' => ParsedTo (atOf tA4 tB4 tM4 4) (errOf 4) x ∧ Below w.heap.size w w' := by
  rw [append_bl, show appR (bl ⟨⟨pre tA4 tB4 tM4 4⟩⟩) (bl ⟨⟨tD4⟩⟩) = x4_4 from by kernel_rfl, show atOf tA4 tB4 tM4 4 = 0 from by kernel_rfl, show errOf 4 = 0 from by kernel_rfl]
  exact parse_calls r hG p4_4
theorem q4_5 {γ : Gam} {w : World} (r : RO γ w.heap.size heap0 w) (hG : cy.GlobOk γ) : Calls Tryz.prog 20 #[.string (⟨⟨pre tA4 tB4 tM4 5⟩⟩ ++ ⟨⟨tD4⟩⟩)] w fun x w' => ParsedTo (atOf tA4 tB4 tM4 5) (errOf 5) x ∧ Below w.heap.size w w' := by
  rw [append_bl, show appR (bl ⟨⟨pre tA4 tB4 tM4 5⟩⟩) (bl ⟨⟨tD4⟩⟩) = x4_5 from by kernel_rfl, show atOf tA4 tB4 tM4 5 = 0 from by kernel_rfl, show errOf 5 = 0 from by kernel_rfl]
  exact parse_calls r hG p4_5
theorem q4_6 {γ : Gam} {w : World} (r : RO γ w.heap.size heap0 w) (hG : cy.GlobOk γ) : Calls Tryz.prog 20 #[.string (⟨⟨pre tA4 tB4 tM4 6⟩⟩ ++ ⟨⟨tD4⟩⟩)] w fun x w' => ParsedTo (atOf tA4 tB4 tM4 6) (errOf 6) x ∧ Below w.heap.size w w' := by
  rw [append_bl, show appR (bl ⟨⟨pre tA4 tB4 tM4 6⟩⟩) (bl ⟨⟨tD4⟩⟩) = x4_6 from by kernel_rfl, show atOf tA4 tB4 tM4 6 = 0 from by kernel_rfl, show errOf 6 = 0 from by kernel_rfl]
  exact parse_calls r hG p4_6
theorem q4_7 {γ : Gam} {w : World} (r : RO γ w.heap.size heap0 w) (hG : cy.GlobOk γ) : Calls Tryz.prog 20 #[.string (⟨⟨pre tA4 tB4 tM4 7⟩⟩ ++ ⟨⟨tD4⟩⟩)] w fun x w' => ParsedTo (atOf tA4 tB4 tM4 7) (errOf 7) x ∧ Below w.heap.size w w' := by
  rw [append_bl, show appR (bl ⟨⟨pre tA4 tB4 tM4 7⟩⟩) (bl ⟨⟨tD4⟩⟩) = x4_7 from by kernel_rfl, show atOf tA4 tB4 tM4 7 = 0 from by kernel_rfl, show errOf 7 = 0 from by kernel_rfl]
  exact parse_calls r hG p4_7
theorem q4_8 {γ : Gam} {w : World} (r : RO γ w.heap.size heap0 w) (hG : cy.GlobOk γ) : Calls Tryz.prog 20 #[.string (⟨⟨pre tA4 tB4 tM4 8⟩⟩ ++ ⟨⟨tD4⟩⟩)] w fun x w' => ParsedTo (atOf tA4 tB4 tM4 8) (errOf 8) x ∧ Below w.heap.size w w' := by
  rw [append_bl, show appR (bl ⟨⟨pre tA4 tB4 tM4 8⟩⟩) (bl ⟨⟨tD4⟩⟩) = x4_8 from by kernel_rfl, show atOf tA4 tB4 tM4 8 = 0 from by kernel_rfl, show errOf 8 = 0 from by kernel_rfl]
  exact parse_calls r hG p4_8
theorem q4_9 {γ : Gam} {w : World} (r : RO γ w.heap.size heap0 w) (hG : cy.GlobOk γ) : Calls Tryz.prog 20 #[.string (⟨⟨pre tA4 tB4 tM4 9⟩⟩ ++ ⟨⟨tD4⟩⟩)] w fun x w' => ParsedTo (atOf tA4 tB4 tM4 9) (errOf 9) x ∧ Below w.heap.size w w' := by
  rw [append_bl, show appR (bl ⟨⟨pre tA4 tB4 tM4 9⟩⟩) (bl ⟨⟨tD4⟩⟩) = x4_9 from by kernel_rfl, show atOf tA4 tB4 tM4 9 = 208 from by kernel_rfl, show errOf 9 = 17 from by kernel_rfl]
  exact parse_calls r hG p4_9
theorem q4_10 {γ : Gam} {w : World} (r : RO γ w.heap.size heap0 w) (hG : cy.GlobOk γ) : Calls Tryz.prog 20 #[.string (⟨⟨pre tA4 tB4 tM4 10⟩⟩ ++ ⟨⟨tD4⟩⟩)] w fun x w' => ParsedTo (atOf tA4 tB4 tM4 10) (errOf 10) x ∧ Below w.heap.size w w' := by
  rw [append_bl, show appR (bl ⟨⟨pre tA4 tB4 tM4 10⟩⟩) (bl ⟨⟨tD4⟩⟩) = x4_10 from by kernel_rfl, show atOf tA4 tB4 tM4 10 = 208 from by kernel_rfl, show errOf 10 = 17 from by kernel_rfl]
  exact parse_calls r hG p4_10
theorem q4_11 {γ : Gam} {w : World} (r : RO γ w.heap.size heap0 w) (hG : cy.GlobOk γ) : Calls Tryz.prog 20 #[.string (⟨⟨pre tA4 tB4 tM4 11⟩⟩ ++ ⟨⟨tD4⟩⟩)] w fun x w' => ParsedTo (atOf tA4 tB4 tM4 11) (errOf 11) x ∧ Below w.heap.size w w' := by
  rw [append_bl, show appR (bl ⟨⟨pre tA4 tB4 tM4 11⟩⟩) (bl ⟨⟨tD4⟩⟩) = x4_11 from by kernel_rfl, show atOf tA4 tB4 tM4 11 = 208 from by kernel_rfl, show errOf 11 = 17 from by kernel_rfl]
  exact parse_calls r hG p4_11
theorem hp4 {γ : Gam} {w : World} (r : RO γ w.heap.size heap0 w) (hG : cy.GlobOk γ) (c : Nat) (hc : c ≤ 10) : Calls Tryz.prog 20 #[.string (⟨⟨pre tA4 tB4 tM4 (c + 1)⟩⟩ ++ ⟨⟨tD4⟩⟩)] w fun x w' => ParsedTo (atOf tA4 tB4 tM4 (c + 1)) (errOf (c + 1)) x ∧ Below w.heap.size w w' := by
  match c, hc with
  | 0, _ => exact q4_1 r hG
  | 1, _ => exact q4_2 r hG
  | 2, _ => exact q4_3 r hG
  | 3, _ => exact q4_4 r hG
  | 4, _ => exact q4_5 r hG
  | 5, _ => exact q4_6 r hG
  | 6, _ => exact q4_7 r hG
  | 7, _ => exact q4_8 r hG
  | 8, _ => exact q4_9 r hG
  | 9, _ => exact q4_10 r hG
  | 10, _ => exact q4_11 r hG
  | n + 11, h => omega
theorem q5_1 {γ : Gam} {w : World} (r : RO γ w.heap.size heap0 w) (hG : cy.GlobOk γ) : Calls Tryz.prog 20 #[.string (⟨⟨pre tA5 tB5 tM5 1⟩⟩ ++ ⟨⟨tD5⟩⟩)] w fun x w' => ParsedTo (atOf tA5 tB5 tM5 1) (errOf 1) x ∧ Below w.heap.size w w' := by
  rw [append_bl, show appR (bl ⟨⟨pre tA5 tB5 tM5 1⟩⟩) (bl ⟨⟨tD5⟩⟩) = x5_1 from by kernel_rfl, show atOf tA5 tB5 tM5 1 = 0 from by kernel_rfl, show errOf 1 = 0 from by kernel_rfl]
  exact parse_calls r hG p5_1
theorem q5_2 {γ : Gam} {w : World} (r : RO γ w.heap.size heap0 w) (hG : cy.GlobOk γ) : Calls Tryz.prog 20 #[.string (⟨⟨pre tA5 tB5 tM5 2⟩⟩ ++ ⟨⟨tD5⟩⟩)] w fun x w' => ParsedTo (atOf tA5 tB5 tM5 2) (errOf 2) x ∧ Below w.heap.size w w' := by
  rw [append_bl, show appR (bl ⟨⟨pre tA5 tB5 tM5 2⟩⟩) (bl ⟨⟨tD5⟩⟩) = x5_2 from by kernel_rfl, show atOf tA5 tB5 tM5 2 = 0 from by kernel_rfl, show errOf 2 = 0 from by kernel_rfl]
  exact parse_calls r hG p5_2
theorem q5_3 {γ : Gam} {w : World} (r : RO γ w.heap.size heap0 w) (hG : cy.GlobOk γ) : Calls Tryz.prog 20 #[.string (⟨⟨pre tA5 tB5 tM5 3⟩⟩ ++ ⟨⟨tD5⟩⟩)] w fun x w' => ParsedTo (atOf tA5 tB5 tM5 3) (errOf 3) x ∧ Below w.heap.size w w' := by
  rw [append_bl, show appR (bl ⟨⟨pre tA5 tB5 tM5 3⟩⟩) (bl ⟨⟨tD5⟩⟩) = x5_3 from by kernel_rfl, show atOf tA5 tB5 tM5 3 = 0 from by kernel_rfl, show errOf 3 = 0 from by kernel_rfl]
  exact parse_calls r hG p5_3
theorem q5_4 {γ : Gam} {w : World} (r : RO γ w.heap.size heap0 w) (hG : cy.GlobOk γ) : Calls Tryz.prog 20 #[.string (⟨⟨pre tA5 tB5 tM5 4⟩⟩ ++ ⟨⟨tD5⟩⟩)] w fun x w' => ParsedTo (atOf tA5 tB5 tM5 4) (errOf 4) x ∧ Below w.heap.size w w' := by
  rw [append_bl, show appR (bl ⟨⟨pre tA5 tB5 tM5 4⟩⟩) (bl ⟨⟨tD5⟩⟩) = x5_4 from by kernel_rfl, show atOf tA5 tB5 tM5 4 = 0 from by kernel_rfl, show errOf 4 = 0 from by kernel_rfl]
  exact parse_calls r hG p5_4
theorem q5_5 {γ : Gam} {w : World} (r : RO γ w.heap.size heap0 w) (hG : cy.GlobOk γ) : Calls Tryz.prog 20 #[.string (⟨⟨pre tA5 tB5 tM5 5⟩⟩ ++ ⟨⟨tD5⟩⟩)] w fun x w' => ParsedTo (atOf tA5 tB5 tM5 5) (errOf 5) x ∧ Below w.heap.size w w' := by
  rw [append_bl, show appR (bl ⟨⟨pre tA5 tB5 tM5 5⟩⟩) (bl ⟨⟨tD5⟩⟩) = x5_5 from by kernel_rfl, show atOf tA5 tB5 tM5 5 = 0 from by kernel_rfl, show errOf 5 = 0 from by kernel_rfl]
  exact parse_calls r hG p5_5
theorem q5_6 {γ : Gam} {w : World} (r : RO γ w.heap.size heap0 w) (hG : cy.GlobOk γ) : Calls Tryz.prog 20 #[.string (⟨⟨pre tA5 tB5 tM5 6⟩⟩ ++ ⟨⟨tD5⟩⟩)] w fun x w' => ParsedTo (atOf tA5 tB5 tM5 6) (errOf 6) x ∧ Below w.heap.size w w' := by
  rw [append_bl, show appR (bl ⟨⟨pre tA5 tB5 tM5 6⟩⟩) (bl ⟨⟨tD5⟩⟩) = x5_6 from by kernel_rfl, show atOf tA5 tB5 tM5 6 = 0 from by kernel_rfl, show errOf 6 = 0 from by kernel_rfl]
  exact parse_calls r hG p5_6
theorem q5_7 {γ : Gam} {w : World} (r : RO γ w.heap.size heap0 w) (hG : cy.GlobOk γ) : Calls Tryz.prog 20 #[.string (⟨⟨pre tA5 tB5 tM5 7⟩⟩ ++ ⟨⟨tD5⟩⟩)] w fun x w' => ParsedTo (atOf tA5 tB5 tM5 7) (errOf 7) x ∧ Below w.heap.size w w' := by
  rw [append_bl, show appR (bl ⟨⟨pre tA5 tB5 tM5 7⟩⟩) (bl ⟨⟨tD5⟩⟩) = x5_7 from by kernel_rfl, show atOf tA5 tB5 tM5 7 = 0 from by kernel_rfl, show errOf 7 = 0 from by kernel_rfl]
  exact parse_calls r hG p5_7
theorem q5_8 {γ : Gam} {w : World} (r : RO γ w.heap.size heap0 w) (hG : cy.GlobOk γ) : Calls Tryz.prog 20 #[.string (⟨⟨pre tA5 tB5 tM5 8⟩⟩ ++ ⟨⟨tD5⟩⟩)] w fun x w' => ParsedTo (atOf tA5 tB5 tM5 8) (errOf 8) x ∧ Below w.heap.size w w' := by
  rw [append_bl, show appR (bl ⟨⟨pre tA5 tB5 tM5 8⟩⟩) (bl ⟨⟨tD5⟩⟩) = x5_8 from by kernel_rfl, show atOf tA5 tB5 tM5 8 = 0 from by kernel_rfl, show errOf 8 = 0 from by kernel_rfl]
  exact parse_calls r hG p5_8
theorem q5_9 {γ : Gam} {w : World} (r : RO γ w.heap.size heap0 w) (hG : cy.GlobOk γ) : Calls Tryz.prog 20 #[.string (⟨⟨pre tA5 tB5 tM5 9⟩⟩ ++ ⟨⟨tD5⟩⟩)] w fun x w' => ParsedTo (atOf tA5 tB5 tM5 9) (errOf 9) x ∧ Below w.heap.size w w' := by
  rw [append_bl, show appR (bl ⟨⟨pre tA5 tB5 tM5 9⟩⟩) (bl ⟨⟨tD5⟩⟩) = x5_9 from by kernel_rfl, show atOf tA5 tB5 tM5 9 = 49 from by kernel_rfl, show errOf 9 = 17 from by kernel_rfl]
  exact parse_calls r hG p5_9
theorem q5_10 {γ : Gam} {w : World} (r : RO γ w.heap.size heap0 w) (hG : cy.GlobOk γ) : Calls Tryz.prog 20 #[.string (⟨⟨pre tA5 tB5 tM5 10⟩⟩ ++ ⟨⟨tD5⟩⟩)] w fun x w' => ParsedTo (atOf tA5 tB5 tM5 10) (errOf 10) x ∧ Below w.heap.size w w' := by
  rw [append_bl, show appR (bl ⟨⟨pre tA5 tB5 tM5 10⟩⟩) (bl ⟨⟨tD5⟩⟩) = x5_10 from by kernel_rfl, show atOf tA5 tB5 tM5 10 = 49 from by kernel_rfl, show errOf 10 = 17 from by kernel_rfl]
  exact parse_calls r hG p5_10
theorem q5_11 {γ : Gam} {w : World} (r : RO γ w.heap.size heap0 w) (hG : cy.GlobOk γ) : Calls Tryz.prog 20 #[.string (⟨⟨pre tA5 tB5 tM5 11⟩⟩ ++ ⟨⟨tD5⟩⟩)] w fun x w' => ParsedTo (atOf tA5 tB5 tM5 11) (errOf 11) x ∧ Below w.heap.size w w' := by
  rw [append_bl, show appR (bl ⟨⟨pre tA5 tB5 tM5 11⟩⟩) (bl ⟨⟨tD5⟩⟩) = x5_11 from by kernel_rfl, show atOf tA5 tB5 tM5 11 = 49 from by kernel_rfl, show errOf 11 = 17 from by kernel_rfl]
  exact parse_calls r hG p5_11
theorem hp5 {γ : Gam} {w : World} (r : RO γ w.heap.size heap0 w) (hG : cy.GlobOk γ) (c : Nat) (hc : c ≤ 10) : Calls Tryz.prog 20 #[.string (⟨⟨pre tA5 tB5 tM5 (c + 1)⟩⟩ ++ ⟨⟨tD5⟩⟩)] w fun x w' => ParsedTo (atOf tA5 tB5 tM5 (c + 1)) (errOf (c + 1)) x ∧ Below w.heap.size w w' := by
  match c, hc with
  | 0, _ => exact q5_1 r hG
  | 1, _ => exact q5_2 r hG
  | 2, _ => exact q5_3 r hG
  | 3, _ => exact q5_4 r hG
  | 4, _ => exact q5_5 r hG
  | 5, _ => exact q5_6 r hG
  | 6, _ => exact q5_7 r hG
  | 7, _ => exact q5_8 r hG
  | 8, _ => exact q5_9 r hG
  | 9, _ => exact q5_10 r hG
  | 10, _ => exact q5_11 r hG
  | n + 11, h => omega

theorem counts_calls {w : World} (hL : laidMet Tryz.prog Rows.sqlCountsRow.laid w) (n k : Int) (hn0 : 0 ≤ n) (hn : n ≤ 255) (hk0 : 0 ≤ k) (hk : k ≤ 255) :
    Calls Tryz.prog 7 #[.int .u8 n, .int .u8 k] w fun e w' => e = .returned (.bool true) ∧ Below w.heap.size w w' := by
  obtain ⟨γ, r, hG⟩ := rel0 hL
  have hsp := speaks_calls r hG
  obtain ⟨c, hc, hnc⟩ : ∃ c : Nat, c ≤ 10 ∧ n % 11 = (c : Int) := ⟨(n % 11).toNat, by omega, by omega⟩
  have later : ∀ w', Below w.heap.size w w' → RO γ w'.heap.size heap0 w' := fun w' hb => RO.later r rfl hb
  have h6 : k % 6 = 0 ∨ k % 6 = 1 ∨ k % 6 = 2 ∨ k % 6 = 3 ∨ k % 6 = 4 ∨ k % 6 = 5 := by omega
  rcases h6 with h | h | h | h | h | h
  · exact walk0 n k hn0 hn hk0 hk h c hc hnc hsp fun w' hb => hp0 (later w' hb) hG c hc
  · exact walk1 n k hn0 hn hk0 hk h c hc hnc hsp fun w' hb => hp1 (later w' hb) hG c hc
  · exact walk2 n k hn0 hn hk0 hk h c hc hnc hsp fun w' hb => hp2 (later w' hb) hG c hc
  · exact walk3 n k hn0 hn hk0 hk h c hc hnc hsp fun w' hb => hp3 (later w' hb) hG c hc
  · exact walk4 n k hn0 hn hk0 hk h c hc hnc hsp fun w' hb => hp4 (later w' hb) hG c hc
  · exact walk5 n k hn0 hn hk0 hk h c hc hnc hsp fun w' hb => hp5 (later w' hb) hG c hc
end Go.Proofs.YtfkhhbjdlgklnaaGreatDoor
