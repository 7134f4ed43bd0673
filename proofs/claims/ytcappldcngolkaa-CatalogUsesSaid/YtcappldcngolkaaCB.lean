/- The cat seat: columns; which is the key. -/
import Derived.Test.YtcappldcngolkaaCA
import Derived.Lib.Hide
namespace Go.Proofs.Ytcappldcngolkaa
open Go Go.RowKit Go.WideMaps Go.WideElems

structure Col where
  name : ByteArray
  kind : Int
  key : Bool
def Col.zero : Col := ⟨.empty, 0, false⟩
def colAt (cs : List Col) (j : Nat) : Col := cs.getD j Col.zero
/-- A slice of columns. -/
def ColAt (w : World) (v : Value) (cs : List Col) : Prop := cs.length * 32 ≤ 140737488355328 ∧
  ((cs = [] ∧ ∃ a c, v = .slice a 0 c) ∨ ∃ b off c, v = .slice (some ⟨b, off, none⟩) cs.length c ∧ ∀ j, j < cs.length →
    w.cell? ⟨b, off + j * 3, none⟩ = some (.string (colAt cs j).name) ∧ w.cell? ⟨b, off + j * 3 + 1, none⟩ = some (.int .i64 (colAt cs j).kind) ∧ w.cell? ⟨b, off + j * 3 + 2, none⟩ = some (.bool (colAt cs j).key))
theorem ColAt.kept {w w' : World} {v : Value} {cs : List Col} (h : ColAt w v cs) (hk : Kept w w') : ColAt w' v cs := by
  obtain ⟨h0, h | ⟨b, off, c, h1, h2⟩⟩ := h
  · exact ⟨h0, .inl h⟩
  · refine ⟨h0, .inr ⟨b, off, c, h1, fun j hj => ?_⟩⟩
    obtain ⟨a1, a2, a3⟩ := h2 j hj
    have hb := hk _ (cell_lt a1)
    exact ⟨by rw [cell_same hb]; exact a1, by rw [cell_same hb]; exact a2, by rw [cell_same hb]; exact a3⟩
def kplace (cs : List Col) : Nat → Nat
  | 0 => 0
  | j + 1 => if (colAt cs j).key then j else kplace cs j
def kcount (cs : List Col) : Nat → Nat
  | 0 => 0
  | j + 1 => kcount cs j + (if (colAt cs j).key then 1 else 0)
/-- Is there just one key? -/
def kone (cs : List Col) : Bool := ((kcount cs cs.length : Int) == 1)
theorem kcount_le (cs : List Col) : ∀ j, kcount cs j ≤ j
  | 0 => Nat.le_refl _
  | j + 1 => by
    have := kcount_le cs j
    unfold kcount
    split <;> omega

set_option maxRecDepth 100000 in
theorem key_none (w : World) (a : Option Addr) (c : Nat) : Calls Try.prog 22 #[.slice a 0 c] w fun e w' => e = .returned (.tuple #[.int .i64 0, .bool false]) ∧ w = w' := by
  go_enter Try.func22, Try.ntmps22
  go_wp2
  refine wp_loop_rounds 1 ?_
  rw [rounds_succ]
  go_wp2
  go_ret2
  exact ⟨rfl, rfl⟩
set_option maxRecDepth 100000 in
theorem key_some (w : World) (b off c : Nat) (cs : List Col) (hn : cs.length ≤ 9223372036854775806) (h : ∀ j, j < cs.length →
    w.cell? ⟨b, off + j * 3, none⟩ = some (.string (colAt cs j).name) ∧ w.cell? ⟨b, off + j * 3 + 1, none⟩ = some (.int .i64 (colAt cs j).kind) ∧ w.cell? ⟨b, off + j * 3 + 2, none⟩ = some (.bool (colAt cs j).key)) :
    Calls Try.prog 22 #[.slice (some ⟨b, off, none⟩) cs.length c] w fun e w' => e = .returned (.tuple #[.int .i64 (kplace cs cs.length : Nat), .bool (kone cs)]) ∧ Below w.heap.size w w' := by
  have cells : ∀ wr, Below w.heap.size w wr → ∀ j, j < cs.length → wr.cell? ⟨b, off + j * 3, none⟩ = some (.string (colAt cs j).name) ∧ wr.cell? ⟨b, off + j * 3 + 1, none⟩ = some (.int .i64 (colAt cs j).kind) ∧ wr.cell? ⟨b, off + j * 3 + 2, none⟩ = some (.bool (colAt cs j).key) := fun wr hb j hj => by
    obtain ⟨a1, a2, a3⟩ := h j hj
    have hk := hb.block _ (cell_lt a1)
    exact ⟨by rw [cell_same hk]; exact a1, by rw [cell_same hk]; exact a2, by rw [cell_same hk]; exact a3⟩
  clear h
  go_enter Try.func22, Try.ntmps22
  go_wp2
  go_loopw [4, 5, 10] (fun p n i wr => ∃ j : Nat, j ≤ cs.length ∧ i = .int .i64 j ∧ p = .int .i64 (kplace cs j : Nat) ∧ n = .int .i64 (kcount cs j : Nat) ∧ Below w.heap.size w wr) (fun _ _ i _ => cs.length - (intOf i).toNat)
  case atStart => exact ⟨0, by omega, rfl, rfl, rfl, Below.refl _ _⟩
  case round =>
    obtain ⟨j, hj, rfl, rfl, rfl, hbr⟩ := hrel
    have hle := kcount_le cs j
    by_cases e : j < cs.length
    · obtain ⟨a1, a2, a3⟩ := cells wr hbr j e
      have hp : kplace cs (j + 1) = if (colAt cs j).key then j else kplace cs j := rfl
      have hk : kcount cs (j + 1) = kcount cs j + (if (colAt cs j).key then 1 else 0) := rfl
      have H1 := Lib.hid hp
      have H2 := Lib.hid hk
      clear cells hp hk
      generalize colAt cs j = x at *
      obtain ⟨nm, kd, ky⟩ := x
      cases ky
      all_goals
        simp only at a1 a2 a3
        go_wp2
        go_roundw
        case rel => exact ⟨j + 1, by omega, by go_num, by rw [H1.out]; rfl, by rw [H2.out]; first | rfl | go_num, hbr.alloc hbr.size _⟩
        case measure => simp [intOf]; omega
    · have hje : j = cs.length := by omega
      subst hje
      clear cells
      go_wp2
      go_ret2
      exact ⟨rfl, hbr⟩
end Go.Proofs.Ytcappldcngolkaa

/- The cat seat: may a table have such columns? -/
namespace Go.Proofs.Ytcappldcngolkaa
open Go Go.RowKit Go.WideMaps Go.WideElems

def badKind (k : Int) : Bool := decide (k < 1 ∨ 3 < k)
theorem bad_yes (nm : ByteArray) (k : Int) (ky : Bool) (w : World) (h : badKind k = true) : Calls Try.prog 38 #[.agg #[.string nm, .int .i64 k, .bool ky]] w fun e w' => e = .returned (.bool true) ∧ Below w.heap.size w w' := by
  have h' : k < 1 ∨ 3 < k := by simpa [badKind] using h
  clear h
  by_cases h1 : k < 1
  · clear h'
    go_enter Try.func38, Try.ntmps38
    go_wp2
    go_ret
    exact ⟨rfl, (Below.refl _ _).alloc (Nat.le_refl _) _⟩
  · have h2 : 3 < k := by omega
    clear h'
    go_enter Try.func38, Try.ntmps38
    go_wp2
    go_ret
    exact ⟨rfl, (Below.refl _ _).alloc (Nat.le_refl _) _⟩
theorem bad_no (nm : ByteArray) (k : Int) (ky : Bool) (w : World) (h : badKind k = false) : Calls Try.prog 38 #[.agg #[.string nm, .int .i64 k, .bool ky]] w fun e w' => e = .returned (.bool false) ∧ Below w.heap.size w w' := by
  have h' : ¬ (k < 1 ∨ 3 < k) := by simpa [badKind] using h
  have h1 : ¬ k < 1 := by omega
  have h2 : ¬ 3 < k := by omega
  clear h h'
  go_enter Try.func38, Try.ntmps38
  go_wp2
  go_ret
  exact ⟨rfl, (Below.refl _ _).alloc (Nat.le_refl _) _⟩

/-- The cells of columns, in each later world. -/
def ColCells (w : World) (b off : Nat) (cs : List Col) : Prop := ∀ wr, Below w.heap.size w wr → ∀ j, j < cs.length →
  wr.cell? ⟨b, off + j * 3, none⟩ = some (.string (colAt cs j).name) ∧ wr.cell? ⟨b, off + j * 3 + 1, none⟩ = some (.int .i64 (colAt cs j).kind) ∧ wr.cell? ⟨b, off + j * 3 + 2, none⟩ = some (.bool (colAt cs j).key)
theorem colCells {w : World} {b off : Nat} {cs : List Col} (h : ∀ j, j < cs.length →
    w.cell? ⟨b, off + j * 3, none⟩ = some (.string (colAt cs j).name) ∧ w.cell? ⟨b, off + j * 3 + 1, none⟩ = some (.int .i64 (colAt cs j).kind) ∧ w.cell? ⟨b, off + j * 3 + 2, none⟩ = some (.bool (colAt cs j).key)) : ColCells w b off cs := fun wr hb j hj => by
  obtain ⟨a1, a2, a3⟩ := h j hj
  have hk := hb.block _ (cell_lt a1)
  exact ⟨by rw [cell_same hk]; exact a1, by rw [cell_same hk]; exact a2, by rw [cell_same hk]; exact a3⟩

set_option maxRecDepth 100000 in
theorem idx_empty (w : World) (a : Option Addr) (c : Nat) : Calls Try.prog 30 #[.slice a 0 c, .func (.func 38) #[] #[]] w fun e w' => e = .returned (.int .i64 (-1)) ∧ w = w' := by
  go_enter Try.func30, Try.ntmps30
  go_wp2
  refine wp_loop_rounds 1 ?_
  rw [rounds_succ]
  go_wp2
  go_ret
  exact ⟨rfl, rfl⟩
set_option maxRecDepth 100000 in
theorem idx_none (w : World) (b off c : Nat) (cs : List Col) (hn : cs.length ≤ 9223372036854775806) (h : ColCells w b off cs) (hb : ∀ j, j < cs.length → badKind (colAt cs j).kind = false) :
    Calls Try.prog 30 #[.slice (some ⟨b, off, none⟩) cs.length c, .func (.func 38) #[] #[]] w fun e w' => e = .returned (.int .i64 (-1)) ∧ Below w.heap.size w w' := by
  go_enter Try.func30, Try.ntmps30
  go_wp2
  go_loopw [8] (fun i wr => ∃ j : Nat, j ≤ cs.length ∧ i = .int .i64 j ∧ Below w.heap.size w wr) (fun i _ => cs.length - (intOf i).toNat)
  case atStart => exact ⟨0, by omega, rfl, Below.refl _ _⟩
  case round =>
    obtain ⟨j, hj, rfl, hbr⟩ := hrel
    by_cases e : j < cs.length
    · obtain ⟨a1, a2, a3⟩ := h wr hbr j e
      have hbj := hb j e
      have ct := bad_no (colAt cs j).name (colAt cs j).kind (colAt cs j).key wr hbj
      clear h hb hbj
      generalize colAt cs j = x at *
      obtain ⟨nm, kd, ky⟩ := x
      simp only at a1 a2 a3 ct
      go_wp2_with (go_at_call 38; refine ct.mono ?_; rintro e w' ⟨rfl, hb2⟩)
      go_roundw
      case rel => exact ⟨j + 1, by omega, by go_num, hbr.trans (hb2.mono hbr.size)⟩
      case measure => simp [intOf]; omega
    · have hje : j = cs.length := by omega
      subst hje
      clear h hb
      go_wp2
      go_ret
      exact ⟨rfl, hbr⟩
/-- The first column of a wrong kind. -/
def FirstBad (cs : List Col) (j0 : Nat) : Prop := j0 < cs.length ∧ badKind (colAt cs j0).kind = true ∧ ∀ j, j < j0 → badKind (colAt cs j).kind = false
set_option maxRecDepth 100000 in
theorem idx_some (w : World) (b off c : Nat) (cs : List Col) (hn : cs.length ≤ 9223372036854775806) (h : ColCells w b off cs) (j0 : Nat) (hb : FirstBad cs j0) :
    Calls Try.prog 30 #[.slice (some ⟨b, off, none⟩) cs.length c, .func (.func 38) #[] #[]] w fun e w' => e = .returned (.int .i64 j0) ∧ Below w.heap.size w w' := by
  obtain ⟨m1, m2, m3⟩ := hb
  go_enter Try.func30, Try.ntmps30
  go_wp2
  go_loopw [8] (fun i wr => ∃ j : Nat, j ≤ j0 ∧ i = .int .i64 j ∧ Below w.heap.size w wr) (fun i _ => cs.length - (intOf i).toNat)
  case atStart => exact ⟨0, by omega, rfl, Below.refl _ _⟩
  case round =>
    obtain ⟨j, hj, rfl, hbr⟩ := hrel
    have hlt : j < cs.length := by omega
    obtain ⟨a1, a2, a3⟩ := h wr hbr j hlt
    by_cases e : j = j0
    · subst e
      have ct := bad_yes (colAt cs j).name (colAt cs j).kind (colAt cs j).key wr m2
      clear h m1 m2 m3
      generalize colAt cs j = x at *
      obtain ⟨nm, kd, ky⟩ := x
      simp only at a1 a2 a3 ct
      go_wp2_with (go_at_call 38; refine ct.mono ?_; rintro e w' ⟨rfl, hb2⟩)
      go_ret
      exact ⟨rfl, hbr.trans (hb2.mono hbr.size)⟩
    · have ct := bad_no (colAt cs j).name (colAt cs j).kind (colAt cs j).key wr (m3 j (by omega))
      clear h m2 m3
      generalize colAt cs j = x at *
      obtain ⟨nm, kd, ky⟩ := x
      simp only at a1 a2 a3 ct
      go_wp2_with (go_at_call 38; refine ct.mono ?_; rintro e w' ⟨rfl, hb2⟩)
      go_roundw
      case rel => exact ⟨j + 1, by omega, by go_num, hbr.trans (hb2.mono hbr.size)⟩
      case measure => simp [intOf]; omega
theorem bad_or (cs : List Col) : (∃ j0, FirstBad cs j0) ∨ ∀ j, j < cs.length → badKind (colAt cs j).kind = false := by
  have key : ∀ n, (∃ j0, j0 < n ∧ badKind (colAt cs j0).kind = true ∧ ∀ j, j < j0 → badKind (colAt cs j).kind = false) ∨ ∀ j, j < n → badKind (colAt cs j).kind = false := by
    intro n
    induction n with
    | zero => exact .inr fun j hj => by omega
    | succ n ih =>
      rcases ih with ⟨j0, h1, h2⟩ | ih
      · exact .inl ⟨j0, by omega, h2⟩
      · cases hn : badKind (colAt cs n).kind with
        | true => exact .inl ⟨n, by omega, hn, ih⟩
        | false =>
          refine .inr fun j hj => ?_
          rcases Nat.lt_succ_iff_lt_or_eq.1 hj with h | rfl
          · exact ih j h
          · exact hn
  exact key cs.length
def anyBad (cs : List Col) : Bool := cs.any fun x => badKind x.kind
theorem anyBad_false {cs : List Col} (h : ∀ j, j < cs.length → badKind (colAt cs j).kind = false) : anyBad cs = false := by
  unfold anyBad
  rw [List.any_eq_false]
  intro x hx
  obtain ⟨j, hj, rfl⟩ := List.mem_iff_getElem.1 hx
  have := h j hj
  unfold colAt at this
  rw [List.getD_eq_getElem?_getD, List.getElem?_eq_getElem hj] at this
  simpa using this
theorem anyBad_true {cs : List Col} {j0 : Nat} (h : FirstBad cs j0) : anyBad cs = true := by
  unfold anyBad
  rw [List.any_eq_true]
  have h2 := h.2.1
  unfold colAt at h2
  rw [List.getD_eq_getElem?_getD, List.getElem?_eq_getElem h.1] at h2
  exact ⟨cs[j0]'h.1, List.getElem_mem _, by simpa using h2⟩
set_option maxRecDepth 100000 in
theorem contF_calls {w : World} {v : Value} {cs : List Col} (h : ColAt w v cs) : Calls Try.prog 37 #[v, .func (.func 38) #[] #[]] w fun e w' => e = .returned (.bool (anyBad cs)) ∧ Below w.heap.size w w' := by
  obtain ⟨h0, ⟨rfl, a, c, rfl⟩ | ⟨b, off, c, rfl, h2⟩⟩ := h
  · have ct := idx_empty w a c
    show Calls Try.prog 37 #[.slice a 0 c, .func (.func 38) #[] #[]] w fun e w' => e = .returned (.bool false) ∧ Below w.heap.size w w'
    go_enter Try.func37, Try.ntmps37
    go_wp2_with (go_at_call 30; refine ct.mono ?_; rintro e w' ⟨rfl, rfl⟩)
    go_ret
    exact ⟨rfl, Below.refl _ _⟩
  · have hn : cs.length ≤ 9223372036854775806 := by omega
    rcases bad_or cs with ⟨j0, hb⟩ | hb
    · rw [anyBad_true hb]
      have ct := idx_some w b off c cs hn (colCells h2) j0 hb
      clear h2 hb h0
      go_enter Try.func37, Try.ntmps37
      go_wp2_with (go_at_call 30; refine ct.mono ?_; rintro e w' ⟨rfl, hb⟩)
      go_ret
      exact ⟨by simp, hb⟩
    · rw [anyBad_false hb]
      have ct := idx_none w b off c cs hn (colCells h2) hb
      clear h2 hb h0
      go_enter Try.func37, Try.ntmps37
      go_wp2_with (go_at_call 30; refine ct.mono ?_; rintro e w' ⟨rfl, hb⟩)
      go_ret
      exact ⟨rfl, hb⟩
end Go.Proofs.Ytcappldcngolkaa

/- The cat seat: may a table have such columns? (goes on) -/
namespace Go.Proofs.Ytcappldcngolkaa
open Go Go.RowKit Go.WideMaps Go.WideElems Go.Maps

def namesUpto (cs : List Col) (j : Nat) : List Lit := (List.range j).map fun i => Lit.string (colAt cs i).name.data.toList
theorem namesUpto_succ (cs : List Col) (j : Nat) : namesUpto cs (j + 1) = namesUpto cs j ++ [Lit.string (colAt cs j).name.data.toList] := by simp [namesUpto, List.range_succ]
def namesD (cs : List Col) (j : Nat) : DataW Value := setOf (.lit (.bool true)) (namesUpto cs j)
theorem namesD_succ (cs : List Col) (j : Nat) : namesD cs (j + 1) = (namesD cs j).put (.string (colAt cs j).name.data.toList) (.lit (.bool true)) := by
  unfold namesD; rw [namesUpto_succ, setOf_snoc]
/-- How many names. -/
def dcount (cs : List Col) : Nat := Maps.size (namesD cs cs.length)
def rightCode (cs : List Col) : Int := if cs.length = 0 ∨ 8 < cs.length ∨ kone cs = false then 17 else if anyBad cs then 5 else if dcount cs < cs.length then 7 else 0

theorem key_calls {w : World} {v : Value} {cs : List Col} (h : ColAt w v cs) : Calls Try.prog 22 #[v] w fun e w' => e = .returned (.tuple #[.int .i64 (kplace cs cs.length : Nat), .bool (kone cs)]) ∧ Below w.heap.size w w' := by
  obtain ⟨h0, ⟨rfl, a, c, rfl⟩ | ⟨b, off, c, rfl, h2⟩⟩ := h
  · refine (key_none w a c).mono fun e w' he => ?_
    obtain ⟨rfl, rfl⟩ := he
    exact ⟨rfl, Below.refl _ _⟩
  · exact key_some w b off c cs (by omega) h2

set_option maxRecDepth 100000 in
set_option maxHeartbeats 1000000 in
theorem right_some {w : World} {b off c : Nat} {cs : List Col} (h0 : cs.length * 32 ≤ 140737488355328) (h2 : ∀ j, j < cs.length →
    w.cell? ⟨b, off + j * 3, none⟩ = some (.string (colAt cs j).name) ∧ w.cell? ⟨b, off + j * 3 + 1, none⟩ = some (.int .i64 (colAt cs j).kind) ∧ w.cell? ⟨b, off + j * 3 + 2, none⟩ = some (.bool (colAt cs j).key)) (hnm : ∀ j, (colAt cs j).name.size ≤ maxLen) :
    Calls Try.prog 21 #[.slice (some ⟨b, off, none⟩) cs.length c] w fun e w' => e = .returned (.int .i64 (rightCode cs)) ∧ Below w.heap.size w w' := by
  have hc := colCells h2
  have hat : ∀ wr, Below w.heap.size w wr → ColAt wr (.slice (some ⟨b, off, none⟩) cs.length c) cs := fun wr hb => ⟨h0, .inr ⟨b, off, c, rfl, fun j hj => hc wr hb j hj⟩⟩
  have law9 : Maps.Keyed Try.prog 9 := Maps.string_keyed Try.underlying9
  have hmm := @run_makeMap Try.prog
  have hnz : ∀ j, keyOf Try.prog 9 (.string (colAt cs j).name) = some (.string (colAt cs j).name.data.toList) := fun j => keyOf_string_mk Try.underlying9 (hnm j)
  clear h2 hnm
  go_enter Try.func21, Try.ntmps21
  go_wp2
  go_loopw [11] (fun i wr => ∃ j : Nat, j ≤ cs.length ∧ i = .int .i64 j ∧ wr.ownsMap Try.prog 9 (plainElem Try.prog 4) w.heap.size j (namesD cs j) ∧ Below w.heap.size w wr) (fun i _ => cs.length - (intOf i).toNat)
  case atStart => exact ⟨0, by omega, rfl, World.ownsMap_made _ _ _ _, (Below.refl _ _).alloc (Nat.le_refl _) _⟩
  case round =>
    obtain ⟨j, hj, rfl, hown, hbr⟩ := hrel
    by_cases e : j < cs.length
    · obtain ⟨a1, a2, a3⟩ := hc wr hbr j e
      have hkey := hnz j
      have H1 := Lib.hid (namesD_succ cs j)
      clear hc hnz hat
      generalize colAt cs j = x at *
      obtain ⟨nm, kd, ky⟩ := x
      simp only at a1 a2 a3
      have hown2 := fun o => hown.alloc o
      go_wp2_with (first
        | (at_mapUpdate; refine wpList_mapUpdate_own _ rfl _ _ _ 88 rfl 9 4 law9 Try.underlying88 _ w.heap.size j _ rfl (hown2 _) (by unfold maxLen; omega) _ _ _ rfl rfl hkey _ [] (plainElem_bool Try.underlying4 true) ?_; intro w1 hown1 hgrow1; go_frame)
        | go_in)
      go_roundw
      case rel => exact ⟨j + 1, by omega, by go_num, by rw [H1.out]; exact hown1, (hbr.alloc hbr.size _).grown hgrow1 (by have := hbr.size; simp; omega) (fun k hk => by cases hk; exact Nat.le_refl _)⟩
      case measure => simp [intOf]; omega
    · have hje : j = cs.length := by omega
      subst hje
      have hkc := key_calls (hat wr hbr)
      have hlen : ∀ w', Below wr.heap.size wr w' → (Builtin.len_ #[88] 3 #[.map (some w.heap.size)]).run Try.prog w' = .ok (.int .i64 (dcount cs)) w' := fun w' hb => by
        have hlt := hown.lt
        have : w'.ownsMap Try.prog 9 (plainElem Try.prog 4) w.heap.size cs.length (namesD cs cs.length) := by
          obtain ⟨es, clock, q1, q2⟩ := hown
          exact ⟨es, clock, by rw [hb.block _ hlt]; exact q1, q2⟩
        exact this.len Try.underlying88 3
      have hcf : ∀ w', Below wr.heap.size wr w' → Calls Try.prog 37 #[.slice (some ⟨b, off, none⟩) cs.length c, .func (.func 38) #[] #[]] w' fun e w2 => e = .returned (.bool (anyBad cs)) ∧ Below wr.heap.size wr w2 := fun w' hb =>
        (contF_calls (hat w' (hbr.trans (hb.mono hbr.size)))).mono fun e w2 h => ⟨h.1, hb.trans (h.2.mono hb.size)⟩
      have fin : ∀ w', Below wr.heap.size wr w' → Below w.heap.size w w' := fun w' hb => hbr.trans (hb.mono hbr.size)
      have hrc : rightCode cs = if cs.length = 0 ∨ 8 < cs.length ∨ kone cs = false then 17 else if anyBad cs then 5 else if dcount cs < cs.length then 7 else 0 := rfl
      have H := Lib.hid hrc
      clear hrc hc hnz hat hown
      have ex17 : (cs.length = 0 ∨ 8 < cs.length ∨ kone cs = false) → rightCode cs = 17 := fun h => by rw [H.out, if_pos h]
      have ex : ¬ (cs.length = 0 ∨ 8 < cs.length ∨ kone cs = false) → rightCode cs = if anyBad cs then 5 else if dcount cs < cs.length then 7 else 0 := fun h => by rw [H.out, if_neg h]
      clear H
      by_cases z : cs.length = 0
      · have hr := Lib.hid (ex17 (.inl z))
        have hkc0 : Calls Try.prog 22 #[.slice (some ⟨b, off, none⟩) 0 c] wr fun e w' => e = .returned (.tuple #[.int .i64 (kplace cs cs.length : Nat), .bool (kone cs)]) ∧ Below wr.heap.size wr w' := by
          have := hkc
          rw [show (Value.slice (some ⟨b, off, none⟩) cs.length c) = .slice (some ⟨b, off, none⟩) 0 c by rw [z]] at this
          exact this
        generalize kplace cs cs.length = kp at *
        clear ex17 ex hlen hcf hkc
        go_wp2_with (go_at_call 22; refine hkc0.mono ?_; rintro e w' ⟨rfl, hb⟩)
        go_ret
        exact ⟨by rw [hr.out]; rfl, fin _ hb⟩
      · have zb : ((cs.length : Int) == 0) = false := by rw [beq_eq_false_iff_ne]; omega
        by_cases z8 : 8 < cs.length
        · have hr := Lib.hid (ex17 (.inr (.inl z8)))
          clear ex17 ex hlen hcf
          go_wp2_with (go_at_call 22; refine hkc.mono ?_; rintro e w' ⟨rfl, hb⟩)
          go_ret
          exact ⟨by rw [hr.out]; rfl, fin _ hb⟩
        · have z8b : decide ((8 : Int) < (cs.length : Int)) = false := by simp; omega
          cases hk : kone cs with
          | false =>
            have hr := Lib.hid (ex17 (.inr (.inr hk)))
            rw [hk] at hkc
            clear ex17 ex hlen hcf hk
            go_wp2_with (go_at_call 22; refine hkc.mono ?_; rintro e w' ⟨rfl, hb⟩)
            go_ret
            exact ⟨by rw [hr.out]; rfl, fin _ hb⟩
          | true =>
            have ex := ex (by simp [z, z8, hk])
            rw [hk] at hkc
            cases hab : anyBad cs with
            | true =>
              rw [hab] at hcf ex
              have hr := Lib.hid ex
              clear ex17 ex hlen hk hab
              go_wp2_with (first | (go_at_call 22; refine hkc.mono ?_; rintro e w' ⟨rfl, hb⟩) | (go_at_call 37; refine (hcf _ hb).mono ?_; rintro e w' ⟨rfl, hb3⟩))
              go_ret
              exact ⟨by rw [hr.out]; rfl, fin _ hb3⟩
            | false =>
              rw [hab] at hcf ex
              by_cases hd : dcount cs < cs.length
              · have hr := Lib.hid ex
                have hr2 : rightCode cs = 7 := by rw [hr.out]; simp [hd]
                have hr := Lib.hid hr2
                clear ex17 ex hk hab hr2
                go_wp2_with (first | (go_at_call 22; refine hkc.mono ?_; rintro e w' ⟨rfl, hb⟩) | (go_at_call 37; refine (hcf _ hb).mono ?_; rintro e w' ⟨rfl, hb3⟩; have hl3 := hlen _ hb3))
                go_ret
                exact ⟨by rw [hr.out]; rfl, fin _ hb3⟩
              · have hr2 : rightCode cs = 0 := by rw [ex]; simp [hd]
                have hr := Lib.hid hr2
                clear ex17 ex hk hab hr2
                go_wp2_with (first | (go_at_call 22; refine hkc.mono ?_; rintro e w' ⟨rfl, hb⟩) | (go_at_call 37; refine (hcf _ hb).mono ?_; rintro e w' ⟨rfl, hb3⟩; have hl3 := hlen _ hb3))
                go_ret
                exact ⟨by rw [hr.out]; rfl, fin _ hb3⟩
end Go.Proofs.Ytcappldcngolkaa

/- The cat seat: columns are cloned. -/
namespace Go.Proofs.Ytcappldcngolkaa
open Go Go.RowKit Go.WideMaps Go.WideElems

def ren23 : Go.Shelf.Ren := ⟨fun | 41 => 23 | n => n, fun | 22 => 30 | 23 => 29 | 4 => 4 | n => n, fun | n => n⟩
theorem lays23 : Go.Proofs.SlLaysE0.n41 Try.prog ren23 := {
  mixed := by kernel_rfl
  f41 := ⟨Try.f23.name, by decide, Try.func23.trans (congrArg some (by kernel_rfl))⟩
  t4 := Try.underlying4
  a4 := Try.isAgg4
  z4 := Try.sizeOf4
  v4 := Try.zeroValue4
  t22 := Try.underlying30
  a22 := Try.isAgg30
  z22 := Try.sizeOf30
  v22 := Try.zeroValue30 }
theorem info29 : (Try.prog.info? 29).map (fun i => (i.zero, i.size, i.bytes)) = some (some (.agg #[.string ⟨#[]⟩, .int .i64 0, .bool false]), 3, 32) := by kernel_rfl

def colNews (cs : List Col) : List Value := cs.flatMap fun x => [.string x.name, .int .i64 x.kind, .bool x.key]
theorem colNews_length (cs : List Col) : (colNews cs).length = cs.length * 3 := by
  induction cs with
  | nil => rfl
  | cons x l ih => simp only [colNews, List.flatMap_cons, List.length_append, List.length_cons] at ih ⊢; rw [ih]; simp; omega
theorem colNews_get (cs : List Col) : ∀ (j : Nat), j < cs.length → (colNews cs)[j * 3]? = some (.string (colAt cs j).name) ∧ (colNews cs)[j * 3 + 1]? = some (.int .i64 (colAt cs j).kind) ∧ (colNews cs)[j * 3 + 2]? = some (.bool (colAt cs j).key) := by
  induction cs with
  | nil => intro j hj; simp at hj
  | cons x l ih =>
    intro j hj
    cases j with
    | zero => exact ⟨rfl, rfl, rfl⟩
    | succ j =>
      obtain ⟨a, b, c⟩ := ih j (by simpa using hj)
      have e : ∀ i, (colNews (x :: l))[(j + 1) * 3 + i]? = (colNews l)[j * 3 + i]? := fun i => by
        rw [show (j + 1) * 3 + i = j * 3 + i + 3 by omega]
        rfl
      exact ⟨(e 0).trans a, (e 1).trans b, (e 2).trans c⟩
theorem colNews_at {w : World} {b off : Nat} {cs : List Col} (h : ∀ j, j < cs.length →
    w.cell? ⟨b, off + j * 3, none⟩ = some (.string (colAt cs j).name) ∧ w.cell? ⟨b, off + j * 3 + 1, none⟩ = some (.int .i64 (colAt cs j).kind) ∧ w.cell? ⟨b, off + j * 3 + 2, none⟩ = some (.bool (colAt cs j).key)) :
    ∀ j u, (colNews cs)[j]? = some u → w.cell? ⟨b, off + j, none⟩ = some u := by
  intro j u hu
  have hl := (List.getElem?_eq_some_iff.1 hu).1
  rw [colNews_length] at hl
  obtain ⟨a1, a2, a3⟩ := colNews_get cs (j / 3) (by omega)
  obtain ⟨b1, b2, b3⟩ := h (j / 3) (by omega)
  have hj : j = j / 3 * 3 ∨ j = j / 3 * 3 + 1 ∨ j = j / 3 * 3 + 2 := by omega
  rcases hj with e | e | e
  · rw [e, a1] at hu; rw [e, b1, hu]
  · rw [e, a2] at hu; rw [e, ← Nat.add_assoc, b2, hu]
  · rw [e, a3] at hu; rw [e, ← Nat.add_assoc, b3, hu]
theorem colNews_one (cs : List Col) : ∀ u ∈ colNews cs, u.oneCell' = true := by
  intro u hu
  simp only [colNews, List.mem_flatMap, List.mem_cons, List.not_mem_nil, or_false] at hu
  obtain ⟨x, _, rfl | rfl | rfl⟩ := hu <;> rfl
theorem ColAt.of_row {w : World} {base : Nat} {v : Value} {cs : List Col} (h : w.ownsRow base 29 3 v cs.length (colNews cs)) (hb : cs.length * 32 ≤ 140737488355328) : ColAt w v cs ∧ ∃ p l c, v = .slice p l c ∧ ∀ a, p = some a → base ≤ a.block := by
  obtain ⟨h1, ⟨rfl, h2⟩ | ⟨g, cap, cur, rfl, hg, h3, h4, _, h5, h6⟩⟩ := h
  · exact ⟨⟨hb, .inl ⟨List.length_eq_zero_iff.1 h2, none, 0, rfl⟩⟩, _, _, _, rfl, fun a h => by cases h⟩
  · refine ⟨⟨hb, .inr ⟨g, 0, cap, rfl, fun j hj => ?_⟩⟩, _, _, _, rfl, fun a h => by cases h; exact hg⟩
    have key : ∀ i, i < cs.length * 3 → w.cell? ⟨g, i, none⟩ = (colNews cs)[i]? := fun i hi => by
      have e : w.cell? ⟨g, i, none⟩ = cur[i]? := by simp [World.cell?, h3]
      rw [e, ← h6, List.getElem?_take_of_lt hi, Array.getElem?_toList]
    obtain ⟨a1, a2, a3⟩ := colNews_get cs j hj
    simp only [Nat.zero_add]
    exact ⟨by rw [key _ (by omega)]; exact a1, by rw [key _ (by omega)]; exact a2, by rw [key _ (by omega)]; exact a3⟩

theorem cloneCols_calls {w : World} {v : Value} {cs : List Col} (h : ColAt w v cs) (hne : cs ≠ []) :
    Calls Try.prog 23 #[v] w fun e w' => ∃ p l c, e = .returned (.slice p l c) ∧ ColAt w' (.slice p l c) cs ∧ Below w.heap.size w w' ∧ ∀ a, p = some a → w.heap.size ≤ a.block := by
  obtain ⟨h0, ⟨h1, _⟩ | ⟨b, off, c, rfl, h2⟩⟩ := h
  · exact absurd h1 hne
  · obtain ⟨i0, hi, hz0, hz1, hz2⟩ := info_parts info29
    refine (AnyE.slices_Clone lays23 i0 _ 3 32 hi hz0 hz1 hz2 rfl (by decide) Try.sizeOf29 b off cs.length c (colNews cs) w (colNews_length cs) (by unfold maxLen; omega) h0 (colNews_at h2) (colNews_one cs)).mono fun e w' he => ?_
    obtain ⟨v', rfl, hown, _, hb⟩ := he
    obtain ⟨hc, p, l, c', rfl, hg⟩ := ColAt.of_row hown h0
    exact ⟨p, l, c', rfl, hc, hb, hg⟩
theorem cloneCols_nil (n c : Nat) (w : World) : Calls Try.prog 23 #[.slice none n c] w fun e w' => e = .returned (.slice none 0 0) ∧ w' = w := AnyE.slices_Clone_nil lays23 n c w
end Go.Proofs.Ytcappldcngolkaa

/- The cat seat: a table is made. -/
namespace Go.Proofs.Ytcappldcngolkaa
open Go Go.RowKit Go.WideMaps Go.WideElems Go.ChangeMaps Go.MapKept

section
variable {w : World} {cb tb vb : Nat} {tl : List (Bs × Value)} {vl : List VRow}
theorem Cat.lenT (h : Cat w cb tb vb tl vl) (ty : TypeId) {w' : World} (hk : Kept w w') : (Builtin.len_ #[65] ty #[.map (some tb)]).run Try.prog w' = .ok (.int .i64 tl.length) w' :=
  (h.kept hk).mt.len Try.underlying65 ty

set_option maxRecDepth 100000 in
theorem make_taken (h : Cat w cb tb vb tl vl) (s : ByteArray) (hs : s.size ≤ maxLen) (v2 : Value) (ht : ((lk tl s.data.toList).isSome || (lk (vpairs vl) s.data.toList).isSome) = true) :
    Calls Try.prog 7 #[.pointer (some ⟨cb, 0, none⟩), .string s, v2] w fun e w' => e = .returned (.int .i64 7) ∧ Below w.heap.size w w' := by
  have ct := taken_any h s hs ht
  clear ht hs h
  go_enter Try.func7, Try.ntmps7
  go_wp2_with (go_at_call 20; refine ct.mono ?_; rintro e w' ⟨rfl, hb⟩)
  go_ret
  exact ⟨rfl, hb⟩
set_option maxRecDepth 100000 in
theorem make_full (h : Cat w cb tb vb tl vl) (s : ByteArray) (hs : s.size ≤ maxLen) (v2 : Value) (ht : ((lk tl s.data.toList).isSome || (lk (vpairs vl) s.data.toList).isSome) = false) (hn : 8 ≤ tl.length) :
    Calls Try.prog 7 #[.pointer (some ⟨cb, 0, none⟩), .string s, v2] w fun e w' => e = .returned (.int .i64 14) ∧ Below w.heap.size w w' := by
  have ct := taken_any h s hs ht
  have c0 : ∀ w', Below w.heap.size w w' → w'.cell? ⟨cb, 0, none⟩ = some (.map (some tb)) := fun w' hb => (h.kept hb.block).c0
  have lv : ∀ w', Below w.heap.size w w' → (Builtin.len_ #[65] 3 #[.map (some tb)]).run Try.prog w' = .ok (.int .i64 tl.length) w' := fun w' hb => h.lenT 3 hb.block
  clear ht hs h
  go_enter Try.func7, Try.ntmps7
  go_wp2_with (go_at_call 20; refine ct.mono ?_; rintro e w' ⟨rfl, hb⟩; have c0 := c0 _ hb; have lv := lv _ hb)
  go_ret
  exact ⟨rfl, hb⟩

/-- One table's entry has come, and nothing else of what was there has turned. -/
theorem Cat.tabled {w' : World} (h : Cat w cb tb vb tl vl) {s : Bs} {v' : Value} (hm : SMap Try.prog 9 w' tb (tl ++ [(s, v')])) (ht : w.mapTurned w' tb) (hv : TabV v') (hn : tl.length < 8) :
    Cat w' cb tb vb (tl ++ [(s, v')]) vl := by
  obtain ⟨es, clock, es', clock', hb, rfl⟩ := ht
  have oth : ∀ k, k ≠ tb → (setBlock w tb (.map es' clock')).heap[k]? = w.heap[k]? := fun k hk => heap_setBlock_other hb _ hk
  have keep : ∀ {b o : Nat} {v : Value}, w.cell? ⟨b, o, none⟩ = some v → (setBlock w tb (.map es' clock')).cell? ⟨b, o, none⟩ = some v := fun {b o v} hc => by
    rw [cell_same (oth _ (fun e => by subst e; simp [World.cell?, hb] at hc))]; exact hc
  refine ⟨keep h.c0, keep h.c1, hm, h.mv.block (oth _ h.ne.symm), h.ne, fun x hx => ?_, fun x hx => ?_, h.sl, by simp; omega, h.nv⟩
  · rcases List.mem_append.1 hx with hx | hx
    · exact h.tv x hx
    · simp at hx; subst hx; exact hv
  · obtain ⟨h0, h | ⟨b, off, c, h1, h2⟩⟩ := h.us x hx
    · exact ⟨h0, .inl h⟩
    · exact ⟨h0, .inr ⟨b, off, c, h1, fun j hj => keep (h2 j hj)⟩⟩

set_option maxRecDepth 100000 in
set_option maxHeartbeats 1000000 in
theorem make_added (h : Cat w cb tb vb tl vl) (s : ByteArray) (hs : s.size ≤ maxLen) (b off c : Nat) (cs : List Col) (hc : ColAt w (.slice (some ⟨b, off, none⟩) cs.length c) cs) (hnm : ∀ j, (colAt cs j).name.size ≤ maxLen)
    (ht : ((lk tl s.data.toList).isSome || (lk (vpairs vl) s.data.toList).isSome) = false) (hn : tl.length < 8) (hr : rightCode cs = 0) :
    Calls Try.prog 7 #[.pointer (some ⟨cb, 0, none⟩), .string s, .slice (some ⟨b, off, none⟩) cs.length c] w fun e w' => e = .returned (.int .i64 0) ∧ (∃ p l k, Cat w' cb tb vb (tl ++ [(s.data.toList, .agg #[.string s, .slice p l k, .int .i64 (kplace cs cs.length : Nat)])]) vl ∧ ColAt w' (.slice p l k) cs) ∧ w.grownBy w' (some tb) := by
  have ct := taken_any h s hs ht
  have hne : cs ≠ [] := fun e => by subst e; simp [rightCode] at hr
  have c0 : ∀ w', Below w.heap.size w w' → w'.cell? ⟨cb, 0, none⟩ = some (.map (some tb)) := fun w' hb => (h.kept hb.block).c0
  have lv : ∀ w', Below w.heap.size w w' → (Builtin.len_ #[65] 3 #[.map (some tb)]).run Try.prog w' = .ok (.int .i64 tl.length) w' := fun w' hb => h.lenT 3 hb.block
  have hn' : ¬ 8 ≤ tl.length := by omega
  have cat : ∀ w', Below w.heap.size w w' → ColAt w' (.slice (some ⟨b, off, none⟩) cs.length c) cs := fun w' hb => hc.kept hb.block
  have right : ∀ w', Below w.heap.size w w' → Calls Try.prog 21 #[.slice (some ⟨b, off, none⟩) cs.length c] w' fun e w2 => e = .returned (.int .i64 0) ∧ Below w.heap.size w w2 := fun w' hb => by
    obtain ⟨h0, ⟨h1, _⟩ | ⟨b', off', c', he, h2⟩⟩ := cat w' hb
    · exact absurd h1 hne
    · cases he
      refine (right_some h0 h2 hnm).mono fun e w2 hh => ?_
      rw [hr] at hh
      exact ⟨hh.1, hb.trans (hh.2.mono hb.size)⟩
  have keyc : ∀ w', Below w.heap.size w w' → Calls Try.prog 22 #[.slice (some ⟨b, off, none⟩) cs.length c] w' fun e w2 => e = .returned (.tuple #[.int .i64 (kplace cs cs.length : Nat), .bool (kone cs)]) ∧ Below w.heap.size w w2 := fun w' hb =>
    (key_calls (cat w' hb)).mono fun e w2 hh => ⟨hh.1, hb.trans (hh.2.mono hb.size)⟩
  have clone : ∀ w', Below w.heap.size w w' → Calls Try.prog 23 #[.slice (some ⟨b, off, none⟩) cs.length c] w' fun e w2 => ∃ p l k, e = .returned (.slice p l k) ∧ ColAt w2 (.slice p l k) cs ∧ Below w.heap.size w w2 := fun w' hb =>
    (cloneCols_calls (cat w' hb) hne).mono fun e w2 ⟨p, l, k, h1, h2, h3, _⟩ => ⟨p, l, k, h1, h2, hb.trans (h3.mono hb.size)⟩
  have store : ∀ w2 p l k, Below w.heap.size w w2 → ColAt w2 (.slice p l k) cs → ∃ w3, (Instr.mapUpdate 65 (.map (some tb)) (.string s) (.agg #[.string s, .slice p l k, .int .i64 (kplace cs cs.length : Nat)])).run Try.prog w2 = .ok () w3 ∧
      ((∃ p l k, Cat w3 cb tb vb (tl ++ [(s.data.toList, .agg #[.string s, .slice p l k, .int .i64 (kplace cs cs.length : Nat)])]) vl ∧ ColAt w3 (.slice p l k) cs) ∧ w.grownBy w3 (some tb)) := fun w2 p l k hb hst => by
    have h2 := h.kept hb.block
    have hnone : lk tl s.data.toList = none := by
      cases hx : lk tl s.data.toList with
      | none => rfl
      | some v => rw [hx] at ht; simp at ht
    obtain ⟨w3, hrun, hm3, ht3⟩ := h2.mt.store Try.underlying9 Try.underlying65 (by unfold maxLen; omega) hs hnone (.agg #[.string s, .slice p l k, .int .i64 (kplace cs cs.length : Nat)])
    refine ⟨w3, hrun, ⟨p, l, k, h2.tabled hm3 ht3 ⟨_, _, _, _, _, rfl⟩ hn, ?_⟩, grown_of hb ht3.grown⟩
    obtain ⟨es, clock, es', clock', hbk, rfl⟩ := ht3
    obtain ⟨q0, q | ⟨b', off', c', q1, q2⟩⟩ := hst
    · exact ⟨q0, .inl q⟩
    · have keep : ∀ {b o : Nat} {v : Value}, w2.cell? ⟨b, o, none⟩ = some v → (setBlock w2 tb (.map es' clock')).cell? ⟨b, o, none⟩ = some v := fun {b o v} hc => by
        rw [cell_same (heap_setBlock_other hbk _ (fun e => by subst e; simp [World.cell?, hbk] at hc))]; exact hc
      exact ⟨q0, .inr ⟨b', off', c', q1, fun j hj => ⟨keep (q2 j hj).1, keep (q2 j hj).2.1, keep (q2 j hj).2.2⟩⟩⟩
  generalize kplace cs cs.length = kp at *
  generalize kone cs = ko at *
  clear ht hs h hc hnm hn hr cat hne
  go_enter Try.func7, Try.ntmps7
  go_wp2_with (first
    | (go_at_call 20; refine ct.mono ?_; rintro e w1 ⟨rfl, hb⟩; have lv := lv _ hb; have c0a := c0 _ hb)
    | (go_at_call 21; refine (right _ hb).mono ?_; rintro e w2 ⟨rfl, hb2⟩)
    | (go_at_call 22; refine (keyc _ hb2).mono ?_; rintro e w3 ⟨rfl, hb3⟩))
  have cl := clone w3.drew hb3.drew
  have c0r := c0 w3 hb3
  clear clone right keyc
  go_region_with (go_at_call 23; refine cl.mono ?_; rintro e w4 ⟨p, l, c', rfl, hst, hb4⟩; have c0w := c0 w4 hb4; obtain ⟨w5, hrun, hpost⟩ := store w4 p l c' hb4 hst)
  all_goals
    clear store cl
    go_wp2
    go_ret
    exact ⟨rfl, hpost⟩
end
end Go.Proofs.Ytcappldcngolkaa
