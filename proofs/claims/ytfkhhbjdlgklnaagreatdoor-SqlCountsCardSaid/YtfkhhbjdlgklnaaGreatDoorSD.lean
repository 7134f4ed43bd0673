/- The sql seat: the listed package-level variables put the world in relation to heap0. -/
import Derived.Test.YtfkhhbjdlgklnaaGreatDoorSA
import Derived.Test.YtfkhhbjdlgklnaaGreatDoorSB
import Derived.Test.YtfkhhbjdlgklnaaGreatDoorME
import Derived.Test.YtfkhhbjdlgklnaaGreatDoorRows
import Derived.Test.YtfkhhbjdlgklnaaGreatDoorSC
namespace Go.Proofs.YtfkhhbjdlgklnaaGreatDoor
open Go Go.AM Go.RowKit

theorem c9 : Tryz.prog.cellsOf 9 = 1 := by kernel_rfl
theorem c211 : Tryz.prog.cellsOf 211 = 1 := by kernel_rfl

theorem gn0 : Tryz.prog.globalNamed "regrater/lex.signs" = some 0 := by kernel_rfl
theorem gt0 : (Tryz.prog.globals[0]?).map (·.type) = some 161 := by kernel_rfl
theorem gc0 : Tryz.prog.cellsOf 161 = 16 := by kernel_rfl
theorem gm0 : ("regrater/lex.signs", Rows.laid_regrater_lex_signs) ∈ Rows.sqlCountsRow.laid := List.mem_of_getElem? (i := 6) (by kernel_rfl)
theorem gn1 : Tryz.prog.globalNamed "regrater/stmt.kinds" = some 1 := by kernel_rfl
theorem gt1 : (Tryz.prog.globals[1]?).map (·.type) = some 200 := by kernel_rfl
theorem gc1 : Tryz.prog.cellsOf 200 = 4 := by kernel_rfl
theorem gm1 : ("regrater/stmt.kinds", Rows.laid_regrater_stmt_kinds) ∈ Rows.sqlCountsRow.laid := List.mem_of_getElem? (i := 13) (by kernel_rfl)
theorem gn2 : Tryz.prog.globalNamed "regrater/expr.operators" = some 2 := by kernel_rfl
theorem gt2 : (Tryz.prog.globals[2]?).map (·.type) = some 203 := by kernel_rfl
theorem gc2 : Tryz.prog.cellsOf 203 = 15 := by kernel_rfl
theorem gm2 : ("regrater/expr.operators", Rows.laid_regrater_expr_operators) ∈ Rows.sqlCountsRow.laid := List.mem_of_getElem? (i := 7) (by kernel_rfl)
theorem gn3 : Tryz.prog.globalNamed "regrater/expr.aggregates" = some 3 := by kernel_rfl
theorem gt3 : (Tryz.prog.globals[3]?).map (·.type) = some 204 := by kernel_rfl
theorem gc3 : Tryz.prog.cellsOf 204 = 5 := by kernel_rfl
theorem gm3 : ("regrater/expr.aggregates", Rows.laid_regrater_expr_aggregates) ∈ Rows.sqlCountsRow.laid := List.mem_of_getElem? (i := 8) (by kernel_rfl)
theorem gn4 : Tryz.prog.globalNamed "regrater/parse.logic" = some 4 := by kernel_rfl
theorem gt4 : (Tryz.prog.globals[4]?).map (·.type) = some 212 := by kernel_rfl
theorem gc4 : Tryz.prog.cellsOf 212 = 2 := by kernel_rfl
theorem gm4 : ("regrater/parse.logic", Rows.laid_regrater_parse_logic) ∈ Rows.sqlCountsRow.laid := List.mem_of_getElem? (i := 10) (by kernel_rfl)
theorem gn6 : Tryz.prog.globalNamed "regrater/parse.compares" = some 6 := by kernel_rfl
theorem gt6 : (Tryz.prog.globals[6]?).map (·.type) = some 211 := by kernel_rfl
theorem gm6 : ("regrater/parse.compares", Rows.laid_regrater_parse_compares) ∈ Rows.sqlCountsRow.laid := List.mem_of_getElem? (i := 11) (by kernel_rfl)
theorem gn9 : Tryz.prog.globalNamed "regrater/parse.rows" = some 9 := by kernel_rfl
theorem gt9 : (Tryz.prog.globals[9]?).map (·.type) = some 293 := by kernel_rfl
theorem gc9 : Tryz.prog.cellsOf 293 = 3 := by kernel_rfl
theorem gm9 : ("regrater/parse.rows", Rows.laid_regrater_parse_rows) ∈ Rows.sqlCountsRow.laid := List.mem_of_getElem? (i := 9) (by kernel_rfl)
theorem gn15 : Tryz.prog.globalNamed "regrater/parse.aggregates" = some 15 := by kernel_rfl
theorem gt15 : (Tryz.prog.globals[15]?).map (·.type) = some 211 := by kernel_rfl
theorem gm15 : ("regrater/parse.aggregates", Rows.laid_regrater_parse_aggregates) ∈ Rows.sqlCountsRow.laid := List.mem_of_getElem? (i := 12) (by kernel_rfl)

theorem rel0 {w : World} (hL : laidMet Tryz.prog Rows.sqlCountsRow.laid w) : ∃ (γ : Gam), RO γ w.heap.size heap0 w ∧ cy.GlobOk γ := by
  obtain ⟨ps, hv, _⟩ := hL
  obtain ⟨s0, e0, z0, b0, l0⟩ := strs_var (bs := [[60, 62], [60, 61], [62, 61], [124, 124], [40], [41], [44], [46], [42], [43], [45], [47], [37], [61], [60], [62]]) hv gm0 gn0 gt0 Tryz.underlying161 Tryz.underlying9 c9 gc0
  obtain ⟨s1, e1, z1, b1, l1⟩ := strs_var (bs := [[], [66, 79, 79, 76], [73, 78, 84], [84, 69, 88, 84]]) hv gm1 gn1 gt1 Tryz.underlying200 Tryz.underlying9 c9 gc1
  obtain ⟨s2, e2, z2, b2, l2⟩ := strs_var (bs := [[], [61], [60, 62], [60], [60, 61], [62], [62, 61], [43], [45], [42], [47], [37], [124, 124], [65, 78, 68], [79, 82]]) hv gm2 gn2 gt2 Tryz.underlying203 Tryz.underlying9 c9 gc2
  obtain ⟨s3, e3, z3, b3, l3⟩ := strs_var (bs := [[], [67, 79, 85, 78, 84], [83, 85, 77], [77, 73, 78], [77, 65, 88]]) hv gm3 gn3 gt3 Tryz.underlying204 Tryz.underlying9 c9 gc3
  obtain ⟨s9, e9, z9, b9, n9, l9⟩ := maps_var (ms := [[(.string [124, 124], .lit (.int .i64 12))], [(.string [43], .lit (.int .i64 7)), (.string [45], .lit (.int .i64 8))], [(.string [37], .lit (.int .i64 11)), (.string [42], .lit (.int .i64 9)), (.string [47], .lit (.int .i64 10))]]) hv gm9 gn9 gt9 Tryz.underlying293 c211 gc9 Tryz.underlying211 Tryz.underlying9 Tryz.underlying3
  obtain ⟨m16, p16, es16, ck16, q16, hb16, hq16, hc16⟩ := l9 0 _ rfl
  obtain ⟨m17, p17, es17, ck17, q17, hb17, hq17, hc17⟩ := l9 1 _ rfl
  obtain ⟨m18, p18, es18, ck18, q18, hb18, hq18, hc18⟩ := l9 2 _ rfl
  obtain ⟨s4, e4, z4, b4, n4, l4⟩ := maps_var (ms := [[(.string [79, 82], .lit (.int .i64 14))], [(.string [65, 78, 68], .lit (.int .i64 13))]]) hv gm4 gn4 gt4 Tryz.underlying212 c211 gc4 Tryz.underlying211 Tryz.underlying9 Tryz.underlying3
  obtain ⟨m19, p19, es19, ck19, q19, hb19, hq19, hc19⟩ := l4 0 _ rfl
  obtain ⟨m20, p20, es20, ck20, q20, hb20, hq20, hc20⟩ := l4 1 _ rfl
  obtain ⟨s6, e6, z6, m21, b6, l6, es21, ck21, q21, hb21, hq21, hc21⟩ := map_var (ents := [(.string [60], .lit (.int .i64 3)), (.string [60, 61], .lit (.int .i64 4)), (.string [60, 62], .lit (.int .i64 2)), (.string [61], .lit (.int .i64 1)), (.string [62], .lit (.int .i64 5)), (.string [62, 61], .lit (.int .i64 6))]) hv gm6 gn6 gt6 Tryz.underlying211 Tryz.underlying9 Tryz.underlying3
  obtain ⟨s15, e15, z15, m22, b15, l15, es22, ck22, q22, hb22, hq22, hc22⟩ := map_var (ents := [(.string [67, 79, 85, 78, 84], .lit (.int .i64 1)), (.string [77, 65, 88], .lit (.int .i64 4)), (.string [77, 73, 78], .lit (.int .i64 3)), (.string [83, 85, 77], .lit (.int .i64 2))]) hv gm15 gn15 gt15 Tryz.underlying211 Tryz.underlying9 Tryz.underlying3
  have r := RO.base (B := w.heap.size) (n := 16) (Nat.le_refl _)
  replace r := r.addMap (x := 16) (l := [(⟨#[124, 124]⟩, .int .i64 12)]) (by simp) hb16 hq16 hc16 (by decide)
  replace r := r.addMap (x := 17) (l := [(⟨#[43]⟩, .int .i64 7), (⟨#[45]⟩, .int .i64 8)]) (by simp [Gam.put]) hb17 hq17 hc17 (by decide)
  replace r := r.addMap (x := 18) (l := [(⟨#[37]⟩, .int .i64 11), (⟨#[42]⟩, .int .i64 9), (⟨#[47]⟩, .int .i64 10)]) (by simp [Gam.put]) hb18 hq18 hc18 (by decide)
  replace r := r.addMap (x := 19) (l := [(⟨#[79, 82]⟩, .int .i64 14)]) (by simp [Gam.put]) hb19 hq19 hc19 (by decide)
  replace r := r.addMap (x := 20) (l := [(⟨#[65, 78, 68]⟩, .int .i64 13)]) (by simp [Gam.put]) hb20 hq20 hc20 (by decide)
  replace r := r.addMap (x := 21) (l := [(⟨#[60]⟩, .int .i64 3), (⟨#[60, 61]⟩, .int .i64 4), (⟨#[60, 62]⟩, .int .i64 2), (⟨#[61]⟩, .int .i64 1), (⟨#[62]⟩, .int .i64 5), (⟨#[62, 61]⟩, .int .i64 6)]) (by simp [Gam.put]) hb21 hq21 hc21 (by decide)
  replace r := r.addMap (x := 22) (l := [(⟨#[67, 79, 85, 78, 84]⟩, .int .i64 1), (⟨#[77, 65, 88]⟩, .int .i64 4), (⟨#[77, 73, 78]⟩, .int .i64 3), (⟨#[83, 85, 77]⟩, .int .i64 2)]) (by simp [Gam.put]) hb22 hq22 hc22 (by decide)
  replace r := r.addCells (g := 0) (l := [.string ⟨#[60, 62]⟩, .string ⟨#[60, 61]⟩, .string ⟨#[62, 61]⟩, .string ⟨#[124, 124]⟩, .string ⟨#[40]⟩, .string ⟨#[41]⟩, .string ⟨#[44]⟩, .string ⟨#[46]⟩, .string ⟨#[42]⟩, .string ⟨#[43]⟩, .string ⟨#[45]⟩, .string ⟨#[47]⟩, .string ⟨#[37]⟩, .string ⟨#[61]⟩, .string ⟨#[60]⟩, .string ⟨#[62]⟩]) (by simp [Gam.put]) b0 (by rw [l0]; exact gndL_rel [.string ⟨#[60, 62]⟩, .string ⟨#[60, 61]⟩, .string ⟨#[62, 61]⟩, .string ⟨#[124, 124]⟩, .string ⟨#[40]⟩, .string ⟨#[41]⟩, .string ⟨#[44]⟩, .string ⟨#[46]⟩, .string ⟨#[42]⟩, .string ⟨#[43]⟩, .string ⟨#[45]⟩, .string ⟨#[47]⟩, .string ⟨#[37]⟩, .string ⟨#[61]⟩, .string ⟨#[60]⟩, .string ⟨#[62]⟩] (by kernel_rfl))
  replace r := r.addCells (g := 1) (l := [.string ⟨#[]⟩, .string ⟨#[66, 79, 79, 76]⟩, .string ⟨#[73, 78, 84]⟩, .string ⟨#[84, 69, 88, 84]⟩]) (by simp [Gam.put]) b1 (by rw [l1]; exact gndL_rel [.string ⟨#[]⟩, .string ⟨#[66, 79, 79, 76]⟩, .string ⟨#[73, 78, 84]⟩, .string ⟨#[84, 69, 88, 84]⟩] (by kernel_rfl))
  replace r := r.addCells (g := 2) (l := [.string ⟨#[]⟩, .string ⟨#[61]⟩, .string ⟨#[60, 62]⟩, .string ⟨#[60]⟩, .string ⟨#[60, 61]⟩, .string ⟨#[62]⟩, .string ⟨#[62, 61]⟩, .string ⟨#[43]⟩, .string ⟨#[45]⟩, .string ⟨#[42]⟩, .string ⟨#[47]⟩, .string ⟨#[37]⟩, .string ⟨#[124, 124]⟩, .string ⟨#[65, 78, 68]⟩, .string ⟨#[79, 82]⟩]) (by simp [Gam.put]) b2 (by rw [l2]; exact gndL_rel [.string ⟨#[]⟩, .string ⟨#[61]⟩, .string ⟨#[60, 62]⟩, .string ⟨#[60]⟩, .string ⟨#[60, 61]⟩, .string ⟨#[62]⟩, .string ⟨#[62, 61]⟩, .string ⟨#[43]⟩, .string ⟨#[45]⟩, .string ⟨#[42]⟩, .string ⟨#[47]⟩, .string ⟨#[37]⟩, .string ⟨#[124, 124]⟩, .string ⟨#[65, 78, 68]⟩, .string ⟨#[79, 82]⟩] (by kernel_rfl))
  replace r := r.addCells (g := 3) (l := [.string ⟨#[]⟩, .string ⟨#[67, 79, 85, 78, 84]⟩, .string ⟨#[83, 85, 77]⟩, .string ⟨#[77, 73, 78]⟩, .string ⟨#[77, 65, 88]⟩]) (by simp [Gam.put]) b3 (by rw [l3]; exact gndL_rel [.string ⟨#[]⟩, .string ⟨#[67, 79, 85, 78, 84]⟩, .string ⟨#[83, 85, 77]⟩, .string ⟨#[77, 73, 78]⟩, .string ⟨#[77, 65, 88]⟩] (by kernel_rfl))
  replace r := r.addCells (g := 4) (l := [.map (some 19), .map (some 20)]) (by simp [Gam.put]) b4 (VsRel.of_get (by simp [n4]) fun i v hi => by
      match i, hi with
      | 0, hi => cases hi; exact ⟨_, by simpa using p19, .map (g := ⟨m19, 0, 0⟩) (by simp [Gam.put])⟩
      | 1, hi => cases hi; exact ⟨_, by simpa using p20, .map (g := ⟨m20, 0, 0⟩) (by simp [Gam.put])⟩
      | i + 2, hi => simp at hi)
  replace r := r.addCells (g := 6) (l := [.map (some 21)]) (by simp [Gam.put]) b6 (by rw [l6]; exact .cons (.map (g := ⟨m21, 0, 0⟩) (by simp [Gam.put])) .nil)
  replace r := r.addCells (g := 9) (l := [.map (some 16), .map (some 17), .map (some 18)]) (by simp [Gam.put]) b9 (VsRel.of_get (by simp [n9]) fun i v hi => by
      match i, hi with
      | 0, hi => cases hi; exact ⟨_, by simpa using p16, .map (g := ⟨m16, 0, 0⟩) (by simp [Gam.put])⟩
      | 1, hi => cases hi; exact ⟨_, by simpa using p17, .map (g := ⟨m17, 0, 0⟩) (by simp [Gam.put])⟩
      | 2, hi => cases hi; exact ⟨_, by simpa using p18, .map (g := ⟨m18, 0, 0⟩) (by simp [Gam.put])⟩
      | i + 3, hi => simp at hi)
  replace r := r.addCells (g := 15) (l := [.map (some 22)]) (by simp [Gam.put]) b15 (by rw [l15]; exact .cons (.map (g := ⟨m22, 0, 0⟩) (by simp [Gam.put])) .nil)
  refine ⟨_, by rw [heap0_puts]; exact r, ?_⟩
  intro x hx
  have hx : known x = true := hx
  simp only [known, Bool.or_eq_true, Nat.beq_eq] at hx
  rcases hx with ((((((rfl | rfl) | rfl) | rfl) | rfl) | rfl) | rfl) | rfl <;> exact ⟨_, by simp [Gam.put]; rfl⟩
end Go.Proofs.YtfkhhbjdlgklnaaGreatDoor

/- The sql seat: what the machine runs is so in every world that holds the listed variables. -/
namespace Go.Proofs.YtfkhhbjdlgklnaaGreatDoor
open Go Go.AM Go.RowKit

theorem RO.later {γ : Gam} {B : Nat} {H : AHeap} {w w' : World} (r : RO γ B H w) (hB : B = w.heap.size) (hb : Below B w w') : RO γ w'.heap.size H w' := by
  have hsz : w.heap.size ≤ w'.heap.size := hb.size
  refine ⟨⟨r.rel.dom, fun x g hx => Nat.lt_of_lt_of_le (r.rel.lt x g hx) hsz, fun x g o hx ho => ?_, fun x g o hx ho hw => ?_, fun x y gx gy ox oy hx hy h1 h2 hw => ?_, Nat.le_refl _⟩, r.ro⟩
  · rw [hb.block g.b (by rw [hB]; exact r.rel.lt x g hx)]
    exact r.rel.obj x g o hx ho
  · rw [r.ro x o ho] at hw; cases hw
  · rw [r.ro x ox h1] at hw; cases hw

theorem isTrue_some {r : Option Res} (h : isTrue r = true) : ∃ H, r = some (.val (.bool true) H) := by
  unfold isTrue at h
  split at h
  · exact ⟨_, rfl⟩
  · cases h

theorem speaks_calls {γ : Gam} {w : World} (r : RO γ w.heap.size heap0 w) (hG : cy.GlobOk γ) : Calls Tryz.prog 19 #[] w fun e w' => e = .returned (.bool true) ∧ Below w.heap.size w w' := by
  obtain ⟨H', h⟩ := isTrue_some speaks_run
  rw [runG_eq cy_fits] at h
  have hc := (sound cy_fits 100000).call γ w.heap.size _ w 19 [] #[] (.bool true) H' r.rel hG .nil h
  refine Calls.mono (callsIn_wide.1 hc) fun e w' he => ?_
  cases e with
  | returned v =>
    obtain ⟨γ', h1, _, _, h4⟩ := he
    cases h1
    exact ⟨rfl, h4⟩
  | panicked => exact he.elim
  | outgrown => exact he.elim

theorem parseOk_some {p e : Nat} {r : Option Res} (h : parseOk p e r = true) : ∃ a s p0 l0 c0 p1 l1 c1 p2 l2 c2 p3 l3 c3 p4 l4 c4 p5 l5 c5 p6 l6 c6 b H, r = some (.val (.tuple ⟨[.agg ⟨[.int .i64 a, .string s, .slice p0 l0 c0, .slice p1 l1 c1, .slice p2 l2 c2, .slice p3 l3 c3, .slice p4 l4 c4, .slice p5 l5 c5, .slice p6 l6 c6, .int .i64 b]⟩, .int .i64 (.ofNat p), .int .i64 (.ofNat e)]⟩) H) := by
  unfold parseOk at h
  split at h
  · simp only [Bool.and_eq_true, Nat.beq_eq] at h
    obtain ⟨rfl, rfl⟩ := h
    exact ⟨_, _, _, _, _, _, _, _, _, _, _, _, _, _, _, _, _, _, _, _, _, _, _, _, _, rfl⟩
  · cases h
theorem slice_rel {γ : Gam} {p : Option Addr} {l c : Nat} {v : Value} (h : VRel γ (.slice p l c) v) : ∃ p' l' c', v = .slice p' l' c' := by
  cases h <;> exact ⟨_, _, _, rfl⟩

/-- Parse's results: a statement's ten cells, a place, an error. -/
def ParsedTo (p e : Nat) (x : Ending) : Prop := ∃ a s p0 l0 c0 p1 l1 c1 p2 l2 c2 p3 l3 c3 p4 l4 c4 p5 l5 c5 p6 l6 c6 b, x = .returned (.tuple #[.agg #[.int .i64 a, .string s, .slice p0 l0 c0, .slice p1 l1 c1, .slice p2 l2 c2, .slice p3 l3 c3, .slice p4 l4 c4, .slice p5 l5 c5, .slice p6 l6 c6, .int .i64 b], .int .i64 (p : Int), .int .i64 (e : Int)])

theorem parse_calls {γ : Gam} {w : World} {s : List UInt8} {p e : Nat} (r : RO γ w.heap.size heap0 w) (hG : cy.GlobOk γ) (h : parseOk p e (parseRun s) = true) :
    Calls Tryz.prog 20 #[.string ⟨⟨s⟩⟩] w fun x w' => ParsedTo p e x ∧ Below w.heap.size w w' := by
  obtain ⟨a, s1, p0, l0, c0, p1, l1, c1, p2, l2, c2, p3, l3, c3, p4, l4, c4, p5, l5, c5, p6, l6, c6, b, H', h⟩ := parseOk_some h
  unfold parseRun at h
  rw [runG_eq cy_fits] at h
  have hc := (sound cy_fits 100000).call γ w.heap.size _ w 20 [.string ⟨⟨s⟩⟩] #[.string ⟨⟨s⟩⟩] _ H' r.rel hG (.cons (.string _) .nil) h
  refine Calls.mono (callsIn_wide.1 hc) fun e w' he => ?_
  cases e with
  | returned v =>
    obtain ⟨γ', h1, _, _, h4⟩ := he
    cases h1 with
    | tuple hl' =>
      cases hl' with
      | cons ha hb =>
        cases hb with
        | cons hp hq =>
          cases hq with
          | cons he hz =>
            cases hz; cases hp; cases he
            cases ha with
            | agg hcs =>
              cases hcs with | cons q0 r0 => cases r0 with | cons q1 r1 => cases r1 with | cons q2 r2 => cases r2 with | cons q3 r3 => cases r3 with | cons q4 r4 => cases r4 with | cons q5 r5 => cases r5 with | cons q6 r6 => cases r6 with | cons q7 r7 => cases r7 with | cons q8 r8 => cases r8 with | cons q9 r9 =>
                cases r9; cases q0; cases q1; cases q9
                obtain ⟨_, _, _, rfl⟩ := slice_rel q2
                obtain ⟨_, _, _, rfl⟩ := slice_rel q3
                obtain ⟨_, _, _, rfl⟩ := slice_rel q4
                obtain ⟨_, _, _, rfl⟩ := slice_rel q5
                obtain ⟨_, _, _, rfl⟩ := slice_rel q6
                obtain ⟨_, _, _, rfl⟩ := slice_rel q7
                obtain ⟨_, _, _, rfl⟩ := slice_rel q8
                exact ⟨⟨_, _, _, _, _, _, _, _, _, _, _, _, _, _, _, _, _, _, _, _, _, _, _, _, rfl⟩, h4⟩
  | panicked => exact he.elim
  | outgrown => exact he.elim
end Go.Proofs.YtfkhhbjdlgklnaaGreatDoor

/- The sql seat: the texts of SqlCounts, in plain Lean. -/
namespace Go.Proofs.YtfkhhbjdlgklnaaGreatDoor
open Go Go.AM Go.RowKit
/-- What has been written after so many rounds. -/
def pre (a b m : List UInt8) : Nat → List UInt8
  | 0 => a
  | i + 1 => (bif Nat.beq i 0 then pre a b m i else pre a b m i ++ m) ++ b
/-- The place of the ninth thing, once it is known. -/
def atOf (a b m : List UInt8) (i : Nat) : Nat := bif Nat.ble i 8 then 0 else (pre a b m 8 ++ m).length
def errOf (c : Nat) : Nat := bif Nat.ble c 8 then 0 else 17
theorem pre_len (a b m : List UInt8) (ha : a.length ≤ 64) (hb : b.length ≤ 64) (hm : m.length ≤ 64) : ∀ i, (pre a b m i).length ≤ 64 + 128 * i
  | 0 => by simpa [pre] using ha
  | i + 1 => by
    have := pre_len a b m ha hb hm i
    unfold pre
    cases Nat.beq i 0 <;> simp <;> omega
theorem pre_first (a b m : List UInt8) : pre a b m 1 = a ++ b := rfl
theorem pre_next (a b m : List UInt8) (i : Nat) (h : 0 < i) : pre a b m (i + 1) = (pre a b m i ++ m) ++ b := by
  have : Nat.beq i 0 = false := by
    rw [Bool.eq_false_iff]; intro e; have := Nat.eq_of_beq_eq_true e; omega
  rw [pre, this]; rfl
theorem app (a b : List UInt8) : (⟨⟨a⟩⟩ : ByteArray) ++ ⟨⟨b⟩⟩ = ⟨⟨a ++ b⟩⟩ := by
  rw [append_bl, appR_eq]; rfl
theorem atOf_low (a b m : List UInt8) (i : Nat) (h : i ≤ 8) : atOf a b m i = 0 := by
  have : Nat.ble i 8 = true := by rwa [Nat.ble_eq]
  simp [atOf, this]
theorem atOf_high (a b m : List UInt8) (i : Nat) (h : 8 < i) : atOf a b m i = (pre a b m 8 ++ m).length := by
  have : Nat.ble i 8 = false := by
    rw [Bool.eq_false_iff]; intro e; rw [Nat.ble_eq] at e; omega
  simp [atOf, this]
end Go.Proofs.YtfkhhbjdlgklnaaGreatDoor
