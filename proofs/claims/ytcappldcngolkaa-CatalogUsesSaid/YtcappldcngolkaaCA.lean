/- The cat seat: maps from strings to values of any make, as lists. -/
import Derived.Test.YtcappldcngolkaaProg
import Derived.Maps.OwnSet
import Derived.Maps.RangeWalk
import Derived.Maps.Ext
import Derived.Below
import Derived.ProofKit
import Derived.WalkKit
import Derived.LoopTactic
import Derived.Outline
import Derived.Test.YtcappldcngolkaaShelf
import Derived.Deep.RegionWith
import Derived.Sort.OwnSorted
import Derived.Sort.KeysCollected
import Derived.OwnWalk
import Derived.Maps.AppendAt
namespace Go.Proofs.Ytcappldcngolkaa
open Go Go.RowKit Go.WideMaps Go.WideElems

abbrev Bs := List UInt8
def hold (v : Value) : Option (DataW Value × List MemPlace) := some (.held v, [])
theorem hold_inj {v : Value} {d : DataW Value} {ps : List MemPlace} (h : hold v = some (d, ps)) : d = .held v := by cases h; rfl
/-- What a list of pairs has at a key. -/
def lk {α : Type} : List (Bs × α) → Bs → Option α
  | [], _ => none
  | (k, v) :: l, s => if k = s then some v else lk l s
theorem lk_none {α : Type} {l : List (Bs × α)} {s : Bs} : lk l s = none ↔ s ∉ l.map (·.1) := by
  induction l with
  | nil => simp [lk]
  | cons p l ih =>
    obtain ⟨k, v⟩ := p
    by_cases h : k = s
    · simp [lk, h]
    · simp [lk, h, ih, Ne.symm h]
theorem lk_append {α : Type} {l : List (Bs × α)} {s k : Bs} {v : α} (hk : k ∉ l.map (·.1)) : lk (l ++ [(k, v)]) s = if k = s then some v else lk l s := by
  induction l with
  | nil => simp [lk]
  | cons p l ih =>
    obtain ⟨k', v'⟩ := p
    simp only [List.map_cons, List.mem_cons, not_or] at hk
    have ih := ih hk.2
    by_cases h : k' = s
    · subst h
      simp [lk, hk.1]
    · simp [lk, h, ih]
def drop {α : Type} (l : List (Bs × α)) (s : Bs) : List (Bs × α) := l.filter fun p => !decide (p.1 = s)
theorem lk_drop {α : Type} (l : List (Bs × α)) (s k : Bs) : lk (drop l s) k = if k = s then none else lk l k := by
  unfold drop
  induction l with
  | nil => simp [lk]
  | cons p l ih =>
    obtain ⟨k', v⟩ := p
    by_cases h : k' = s
    · subst h
      simp only [List.filter_cons, decide_true, Bool.not_true, Bool.false_eq_true, if_false, ih, lk]
      by_cases h2 : k = k'
      · simp [h2]
      · simp [h2, Ne.symm h2]
    · simp only [List.filter_cons, h, decide_false, Bool.not_false, if_true, lk, ih]
      by_cases h2 : k' = k
      · subst h2; simp [h]
      · simp [h2]
theorem drop_nodup {α : Type} {l : List (Bs × α)} {s : Bs} (h : (l.map (·.1)).Nodup) : ((drop l s).map (·.1)).Nodup := h.sublist (List.Sublist.map _ List.filter_sublist)
theorem drop_length {α : Type} {l : List (Bs × α)} {s : Bs} (h : (l.map (·.1)).Nodup) : (drop l s).length + (if (lk l s).isSome then 1 else 0) = l.length := by
  unfold drop
  induction l with
  | nil => simp [lk]
  | cons p l ih =>
    obtain ⟨k, v⟩ := p
    simp only [List.map_cons, List.nodup_cons] at h
    by_cases hk : k = s
    · subst hk
      have hn : ∀ q ∈ l, (!decide (q.1 = k)) = true := fun q hq => by
        have : q.1 ≠ k := fun e => h.1 (List.mem_map.2 ⟨q, hq, e⟩)
        simp [this]
      simp [lk, List.filter_eq_self.2 hn]
    · have := ih h.2
      simp only [List.filter_cons, hk, decide_false, Bool.not_false, if_true, List.length_cons, lk, if_false]
      omega

section
variable {P : Program} {kt t e : TypeId} {w : World} {b : Nat} {l : List (Bs × Value)}
/-- Block b is a map that reads as the list; the order is of no matter. -/
structure SMap (P : Program) (kt : TypeId) (w : World) (b : Nat) (l : List (Bs × Value)) : Prop where
  own : ∃ D, w.ownsMap (H := Value) P kt hold b l.length D ∧ Maps.size D = l.length ∧ ∀ s, Maps.has D (.string s) = (lk l s).isSome ∧ ∀ zd, D.atKey (.string s) zd = match lk l s with
    | some v => .held v
    | none => zd
  nd : (l.map (·.1)).Nodup

theorem SMap.lt (h : SMap P kt w b l) : b < w.heap.size := by
  obtain ⟨D, h1, _⟩ := h.own
  exact h1.lt
theorem SMap.made (w : World) (P : Program) (kt : TypeId) : SMap P kt (w.alloc (.map #[] 0)) w.heap.size [] :=
  ⟨⟨.map [], World.ownsMap_made w P kt hold, rfl, fun s => ⟨rfl, fun zd => rfl⟩⟩, by simp⟩
theorem SMap.kept (h : SMap P kt w b l) {w' : World} {row : Option Nat} (hg : w.grownBy w' row) (hne : some b ≠ row) : SMap P kt w' b l := by
  obtain ⟨⟨D, h1, h2⟩, h3⟩ := h
  exact ⟨⟨D, h1.kept hg hne, h2⟩, h3⟩
theorem SMap.block (h : SMap P kt w b l) {w' : World} (hb : w'.heap[b]? = w.heap[b]?) : SMap P kt w' b l := by
  obtain ⟨⟨D, ⟨es, clock, h1, h4⟩, h2⟩, h3⟩ := h
  exact ⟨⟨D, ⟨es, clock, by rw [hb]; exact h1, h4⟩, h2⟩, h3⟩
theorem SMap.shrink {n : Nat} {D : DataW Value} (h : w.ownsMap P kt hold b n D) : w.ownsMap P kt hold b (Maps.size D) D := by
  obtain ⟨es, clock, hb, F, hs, rfl⟩ := h
  refine ⟨es, clock, hb, F, ?_, rfl⟩
  simp [Maps.size, length_sorted]

theorem SMap.look (h : SMap P kt w b l) (hk : P.underlying kt = some .string) (ht : P.underlying t = some (.map kt e)) {z : Value} (hz : (zeroValue e).run P w = .ok z w) {s : ByteArray} (hs : s.size ≤ maxLen) :
    (Instr.lookup t (.map (some b)) (.string s) true).run P w = .ok (.tuple #[(lk l s.data.toList).getD z, .bool (lk l s.data.toList).isSome]) w := by
  obtain ⟨D, h1, h2, h3⟩ := h.own
  obtain ⟨v, ps, hrun, hv⟩ := h1.look_ok (Maps.string_keyed hk) ht hz (zd := .held z) (zp := []) rfl (keyOf_string_mk hk hs)
  rw [(h3 _).1] at hrun
  have := hold_inj hv
  rw [(h3 _).2] at this
  rw [hrun]
  cases hl : lk l s.data.toList with
  | none => rw [hl] at this; cases this; rfl
  | some u => rw [hl] at this; cases this; rfl
theorem SMap.len (h : SMap P kt w b l) (ht : P.underlying t = some (.map kt e)) (ty : TypeId) : (Builtin.len_ #[t] ty #[.map (some b)]).run P w = .ok (.int .i64 l.length) w := by
  obtain ⟨D, h1, h2, h3⟩ := h.own
  rw [h1.len ht ty, h2]
theorem SMap.store (h : SMap P kt w b l) (hk : P.underlying kt = some .string) (ht : P.underlying t = some (.map kt e)) (hn : l.length < maxLen) {s : ByteArray} (hs : s.size ≤ maxLen) (hnew : lk l s.data.toList = none) (v : Value) :
    ∃ w', (Instr.mapUpdate t (.map (some b)) (.string s) v).run P w = .ok () w' ∧ SMap P kt w' b (l ++ [(s.data.toList, v)]) ∧ w.mapTurned w' b := by
  obtain ⟨D, h1, h2, h3⟩ := h.own
  have K := Maps.string_keyed hk
  obtain ⟨w', hrun, hown, hturn⟩ := h1.store K ht hn (keyOf_string_mk hk hs) (val := v) (d := .held v) (ps := []) rfl
  have hm := hnew
  rw [lk_none] at hm
  have hhas : Maps.has D (.string s.data.toList) = false := by rw [(h3 _).1, hnew]; rfl
  have hsz : Maps.size (D.put (.string s.data.toList) (.held v)) = (l ++ [(s.data.toList, v)]).length := by
    rw [Maps.size_put (h1.tidy K), hhas, h2]; simp
  refine ⟨w', hrun, ⟨⟨_, by rw [← hsz]; exact SMap.shrink hown, hsz, fun k => ?_⟩, ?_⟩, hturn⟩
  · by_cases e : s.data.toList = k
    · subst e
      rw [lk_append hm, if_pos rfl, Maps.has_put_same h1.isMap (by simp [WideAt.IsKeyLit])]
      exact ⟨rfl, fun zd => Maps.atKey_put_same h1.isMap (by simp [WideAt.IsKeyLit]) _ _⟩
    · have e' : (Lit.string k) ≠ .string s.data.toList := fun h => e (by cases h; rfl)
      rw [lk_append hm, if_neg e, Maps.has_put_other e']
      exact ⟨(h3 k).1, fun zd => by rw [Maps.atKey_put_other e']; exact (h3 k).2 zd⟩
  · rw [List.map_append, List.nodup_append]
    exact ⟨h.nd, by simp, fun a ha c hc => by simp at hc; subst hc; exact fun e => hm (e ▸ ha)⟩
theorem SMap.del (h : SMap P kt w b l) (hk : P.underlying kt = some .string) (ht : P.underlying t = some (.map kt e)) {s : ByteArray} (hs : s.size ≤ maxLen) (ty : TypeId) :
    ∃ w', (Builtin.delete_ #[t, kt] ty #[.map (some b), .string s]).run P w = .ok (.tuple #[]) w' ∧ SMap P kt w' b (drop l s.data.toList) ∧ w.mapTurned w' b := by
  obtain ⟨D, h1, h2, h3⟩ := h.own
  have K := Maps.string_keyed hk
  obtain ⟨w', hrun, hown, hturn⟩ := h1.drop K ht (keyOf_string_mk hk hs) ty
  have hsz : Maps.size (D.del (.string s.data.toList)) = (drop l s.data.toList).length := by
    have a := Maps.size_del (k := .string s.data.toList) (h1.tidy K)
    have b := drop_length (s := s.data.toList) h.nd
    rw [(h3 _).1] at a
    omega
  refine ⟨w', hrun, ⟨⟨_, by rw [← hsz]; exact SMap.shrink hown, hsz, fun k => ?_⟩, drop_nodup h.nd⟩, hturn⟩
  rw [lk_drop]
  by_cases e : k = s.data.toList
  · subst e
    rw [if_pos rfl]
    exact ⟨Maps.has_del_same, fun zd => Maps.atKey_del_same zd⟩
  · have e' : (Lit.string k) ≠ .string s.data.toList := fun h => e (by cases h; rfl)
    rw [if_neg e, Maps.has_del_other e']
    exact ⟨(h3 k).1, fun zd => by rw [Maps.atKey_del_other e']; exact (h3 k).2 zd⟩
end
end Go.Proofs.Ytcappldcngolkaa

/- The cat seat: a catalog in memory; which names are taken. -/
namespace Go.Proofs.Ytcappldcngolkaa
open Go Go.RowKit Go.WideMaps Go.WideElems

/-- A table's value. -/
def TabV (v : Value) : Prop := ∃ (nm : ByteArray) (p : Option Addr) (l c : Nat) (k : Int), v = .agg #[.string nm, .slice p l c, .int .i64 k]
/-- A slice of strings. -/
def StrAt (w : World) (v : Value) (us : List ByteArray) : Prop := us.length * 16 ≤ 140737488355328 ∧
  ((us = [] ∧ ∃ a c, v = .slice a 0 c) ∨ ∃ b off c, v = .slice (some ⟨b, off, none⟩) us.length c ∧ ∀ j, j < us.length → w.cell? ⟨b, off + j, none⟩ = some (.string (us.getD j .empty)))
structure VRow where
  name : Bs
  val : Value
  uses : List ByteArray
def vpairs (l : List VRow) : List (Bs × Value) := l.map fun x => (x.name, x.val)
/-- A catalog at block cb: its tables, its views. -/
structure Cat (w : World) (cb tb vb : Nat) (tl : List (Bs × Value)) (vl : List VRow) : Prop where
  c0 : w.cell? ⟨cb, 0, none⟩ = some (.map (some tb))
  c1 : w.cell? ⟨cb, 1, none⟩ = some (.map (some vb))
  mt : SMap Try.prog 9 w tb tl
  mv : SMap Try.prog 9 w vb (vpairs vl)
  ne : tb ≠ vb
  tv : ∀ x ∈ tl, TabV x.2
  us : ∀ x ∈ vl, StrAt w x.val x.uses
  sl : ∀ x ∈ vl, ∃ p l c, x.val = .slice p l c
  nt : tl.length ≤ 8
  nv : vl.length ≤ 8

/-- Nothing that was there has turned. -/
def Kept (w w' : World) : Prop := ∀ k, k < w.heap.size → w'.heap[k]? = w.heap[k]?
theorem cell_lt {w : World} {b o : Nat} {v : Value} (h : w.cell? ⟨b, o, none⟩ = some v) : b < w.heap.size := by
  unfold World.cell? at h
  rcases Nat.lt_or_ge b w.heap.size with h1 | h1
  · exact h1
  · have : w.heap[b]? = none := Array.getElem?_eq_none h1
    simp [this] at h
theorem cell_same {w w' : World} {b o : Nat} (h : w'.heap[b]? = w.heap[b]?) : w'.cell? ⟨b, o, none⟩ = w.cell? ⟨b, o, none⟩ := World.cell?_of_block (w := w) h
theorem StrAt.kept {w w' : World} {v : Value} {us : List ByteArray} (h : StrAt w v us) (hk : Kept w w') : StrAt w' v us := by
  obtain ⟨h0, h | ⟨b, off, c, h1, h2⟩⟩ := h
  · exact ⟨h0, .inl h⟩
  · exact ⟨h0, .inr ⟨b, off, c, h1, fun j hj => by rw [cell_same (hk _ (cell_lt (h2 j hj)))]; exact h2 j hj⟩⟩
theorem Cat.kept {w w' : World} {cb tb vb : Nat} {tl : List (Bs × Value)} {vl : List VRow} (h : Cat w cb tb vb tl vl) (hk : Kept w w') : Cat w' cb tb vb tl vl :=
  ⟨by rw [cell_same (hk _ (cell_lt h.c0))]; exact h.c0, by rw [cell_same (hk _ (cell_lt h.c1))]; exact h.c1, h.mt.block (hk _ h.mt.lt), h.mv.block (hk _ h.mv.lt), h.ne, h.tv, fun x hx => (h.us x hx).kept hk, h.sl, h.nt, h.nv⟩
theorem Kept.of_below {w w' : World} (h : Below w.heap.size w w') : Kept w w' := h.block
theorem Kept.alloc (w : World) (o : Obj) : Kept w (w.alloc o) := fun k hk => Below.heap_alloc w o k hk

/-- Nothing that was there has turned but one block. -/
theorem grown_of {B : Nat} {w w1 w2 : World} (h : Below w.heap.size w w1) (h2 : w1.grownBy w2 (some B)) : w.grownBy w2 (some B) :=
  ⟨h2.os.trans h.os, h2.tape.trans h.tape, h2.output.trans h.output, Nat.le_trans h.size h2.size, fun k hk hne => (h2.block k (Nat.lt_of_lt_of_le hk h.size) hne).trans (h.block k hk)⟩
theorem grown_tr {B : Nat} {w w1 w2 : World} (h : w.grownBy w1 (some B)) (h2 : w1.grownBy w2 (some B)) : w.grownBy w2 (some B) :=
  ⟨h2.os.trans h.os, h2.tape.trans h.tape, h2.output.trans h.output, Nat.le_trans h.size h2.size, fun k hk hne => (h2.block k (Nat.lt_of_lt_of_le hk h.size) hne).trans (h.block k hk hne)⟩
theorem zero53 (w : World) : (zeroValue 53).run Try.prog w = .ok (.agg #[.string .empty, .slice none 0 0, .int .i64 0]) w := by kernel_rfl
theorem zero22 (w : World) : (zeroValue 22).run Try.prog w = .ok (.slice none 0 0) w := by kernel_rfl
theorem lk_mem {α : Type} {l : List (Bs × α)} {s : Bs} {v : α} (h : lk l s = some v) : ∃ x ∈ l, x.1 = s ∧ x.2 = v := by
  induction l with
  | nil => cases h
  | cons p l ih =>
    obtain ⟨k, u⟩ := p
    by_cases e : k = s
    · simp [lk, e] at h; exact ⟨_, List.mem_cons_self, e, h⟩
    · simp [lk, e] at h
      obtain ⟨x, hx, h1⟩ := ih h
      exact ⟨x, List.mem_cons_of_mem _ hx, h1⟩

section
variable {w : World} {cb tb vb : Nat} {tl : List (Bs × Value)} {vl : List VRow}
theorem Cat.lookT (h : Cat w cb tb vb tl vl) {s : ByteArray} (hs : s.size ≤ maxLen) : ∃ (nm : ByteArray) (p : Option Addr) (l c : Nat) (k : Int), (lk tl s.data.toList).getD (.agg #[.string .empty, .slice none 0 0, .int .i64 0]) = .agg #[.string nm, .slice p l c, .int .i64 k] ∧
    ∀ w', Kept w w' → (Instr.lookup 65 (.map (some tb)) (.string s) true).run Try.prog w' = .ok (.tuple #[.agg #[.string nm, .slice p l c, .int .i64 k], .bool (lk tl s.data.toList).isSome]) w' := by
  have hz : TabV ((lk tl s.data.toList).getD (.agg #[.string .empty, .slice none 0 0, .int .i64 0])) := by
    cases hl : lk tl s.data.toList with
    | none => exact ⟨_, _, _, _, _, rfl⟩
    | some v =>
      obtain ⟨x, hx, _, rfl⟩ := lk_mem hl
      exact h.tv x hx
  obtain ⟨nm, p, l, c, k, e⟩ := hz
  refine ⟨nm, p, l, c, k, e, fun w' hk => ?_⟩
  have := (h.kept hk).mt.look Try.underlying9 Try.underlying65 (zero53 w') hs
  rw [e] at this
  exact this
theorem Cat.lookV (h : Cat w cb tb vb tl vl) {s : ByteArray} (hs : s.size ≤ maxLen) : ∃ (p : Option Addr) (l c : Nat), (lk (vpairs vl) s.data.toList).getD (.slice none 0 0) = .slice p l c ∧
    ∀ w', Kept w w' → (Instr.lookup 66 (.map (some vb)) (.string s) true).run Try.prog w' = .ok (.tuple #[.slice p l c, .bool (lk (vpairs vl) s.data.toList).isSome]) w' := by
  have hz : ∃ p l c, (lk (vpairs vl) s.data.toList).getD (.slice none 0 0) = .slice p l c := by
    cases hl : lk (vpairs vl) s.data.toList with
    | none => exact ⟨_, _, _, rfl⟩
    | some v =>
      obtain ⟨x, hx, _, rfl⟩ := lk_mem hl
      obtain ⟨y, hy, rfl⟩ := List.mem_map.1 hx
      exact h.sl y hy
  obtain ⟨p, l, c, e⟩ := hz
  refine ⟨p, l, c, e, fun w' hk => ?_⟩
  have := (h.kept hk).mv.look Try.underlying9 Try.underlying66 (zero22 w') hs
  rw [e] at this
  exact this

set_option maxRecDepth 100000 in
/-- Is there a table or a view of a name? -/
theorem taken_calls (h : Cat w cb tb vb tl vl) (s : ByteArray) (hs : s.size ≤ maxLen) :
    Calls Try.prog 20 #[.pointer (some ⟨cb, 0, none⟩), .string s] w fun e w' => e = .returned (.bool ((lk tl s.data.toList).isSome || (lk (vpairs vl) s.data.toList).isSome)) ∧ Below w.heap.size w w' := by
  obtain ⟨nm, p, l, c, k, e1, lt⟩ := h.lookT hs
  obtain ⟨p', l', c', e2, lv⟩ := h.lookV hs
  have c0 := h.c0
  have c1 := h.c1
  have hlt := cell_lt c0
  have lt0 := lt w (fun _ _ => rfl)
  have lv0 := fun o => lv (w.alloc o) (Kept.alloc w o)
  clear lt lv h hs e1 e2
  generalize (lk tl s.data.toList).isSome = bt at *
  generalize (lk (vpairs vl) s.data.toList).isSome = bv at *
  cases bt
  all_goals
    go_enter Try.func20, Try.ntmps20
    go_wp2
    go_ret
    exact ⟨rfl, (Below.refl _ _).alloc (Nat.le_refl _) _⟩
end
end Go.Proofs.Ytcappldcngolkaa

/- The cat seat: a view is added. -/
namespace Go.Proofs.Ytcappldcngolkaa
open Go Go.RowKit Go.WideMaps Go.WideElems

section
variable {w : World} {cb tb vb : Nat} {tl : List (Bs × Value)} {vl : List VRow}
theorem taken_any (h : Cat w cb tb vb tl vl) (s : ByteArray) (hs : s.size ≤ maxLen) {tk : Bool} (ht : ((lk tl s.data.toList).isSome || (lk (vpairs vl) s.data.toList).isSome) = tk) :
    Calls Try.prog 20 #[.pointer (some ⟨cb, 0, none⟩), .string s] w fun e w' => e = .returned (.bool tk) ∧ Below w.heap.size w w' := by
  rw [← ht]; exact taken_calls h s hs
theorem vpairs_length (l : List VRow) : (vpairs l).length = l.length := by simp [vpairs]
theorem Cat.lenV (h : Cat w cb tb vb tl vl) (ty : TypeId) {w' : World} (hk : Kept w w') : (Builtin.len_ #[66] ty #[.map (some vb)]).run Try.prog w' = .ok (.int .i64 vl.length) w' := by
  have := (h.kept hk).mv.len Try.underlying66 ty
  rwa [vpairs_length] at this

set_option maxRecDepth 100000 in
theorem view_taken (h : Cat w cb tb vb tl vl) (s : ByteArray) (hs : s.size ≤ maxLen) (v2 : Value) (ht : ((lk tl s.data.toList).isSome || (lk (vpairs vl) s.data.toList).isSome) = true) :
    Calls Try.prog 8 #[.pointer (some ⟨cb, 0, none⟩), .string s, v2] w fun e w' => e = .returned (.int .i64 7) ∧ Below w.heap.size w w' := by
  have ct := taken_any h s hs ht
  clear ht hs h
  go_enter Try.func8, Try.ntmps8
  go_wp2_with (go_at_call 20; refine ct.mono ?_; rintro e w' ⟨rfl, hb⟩)
  go_ret
  exact ⟨rfl, hb⟩
set_option maxRecDepth 100000 in
theorem view_full (h : Cat w cb tb vb tl vl) (s : ByteArray) (hs : s.size ≤ maxLen) (v2 : Value) (ht : ((lk tl s.data.toList).isSome || (lk (vpairs vl) s.data.toList).isSome) = false) (hn : 8 ≤ vl.length) :
    Calls Try.prog 8 #[.pointer (some ⟨cb, 0, none⟩), .string s, v2] w fun e w' => e = .returned (.int .i64 14) ∧ Below w.heap.size w w' := by
  have ct := taken_any h s hs ht
  have c1 : ∀ w', Below w.heap.size w w' → w'.cell? ⟨cb, 1, none⟩ = some (.map (some vb)) := fun w' hb => (h.kept hb.block).c1
  have lv : ∀ w', Below w.heap.size w w' → (Builtin.len_ #[66] 3 #[.map (some vb)]).run Try.prog w' = .ok (.int .i64 vl.length) w' := fun w' hb => h.lenV 3 hb.block
  clear ht hs h
  go_enter Try.func8, Try.ntmps8
  go_wp2_with (go_at_call 20; refine ct.mono ?_; rintro e w' ⟨rfl, hb⟩; have c1 := c1 _ hb; have lv := lv _ hb)
  go_ret
  exact ⟨rfl, hb⟩

/-- A list of strings' cells, later. -/
theorem StrAt.below {w w' : World} {v : Value} {us : List ByteArray} (h : StrAt w v us) (hb : Below w.heap.size w w') : StrAt w' v us := h.kept hb.block
/-- A name that no table bears, the first of them. -/
def Miss (tl : List (Bs × Value)) (us : List ByteArray) (j0 : Nat) : Prop := j0 < us.length ∧ (lk tl (us.getD j0 .empty).data.toList).isSome = false ∧ ∀ j, j < j0 → (lk tl (us.getD j .empty).data.toList).isSome = true
theorem miss_or (tl : List (Bs × Value)) (us : List ByteArray) : (∃ j0, Miss tl us j0) ∨ ∀ j, j < us.length → (lk tl (us.getD j .empty).data.toList).isSome = true := by
  have key : ∀ n, (∃ j0, j0 < n ∧ (lk tl (us.getD j0 .empty).data.toList).isSome = false ∧ ∀ j, j < j0 → (lk tl (us.getD j .empty).data.toList).isSome = true) ∨ ∀ j, j < n → (lk tl (us.getD j .empty).data.toList).isSome = true := by
    intro n
    induction n with
    | zero => exact .inr fun j hj => by omega
    | succ n ih =>
      rcases ih with ⟨j0, h1, h2⟩ | ih
      · exact .inl ⟨j0, by omega, h2⟩
      · cases hn : (lk tl (us.getD n .empty).data.toList).isSome with
        | false => exact .inl ⟨n, by omega, hn, ih⟩
        | true =>
          refine .inr fun j hj => ?_
          rcases Nat.lt_succ_iff_lt_or_eq.1 hj with h | rfl
          · exact ih j h
          · exact hn
  exact key us.length

set_option maxRecDepth 100000 in
theorem view_miss (h : Cat w cb tb vb tl vl) (s : ByteArray) (hs : s.size ≤ maxLen) (b off c : Nat) (us : List ByteArray) (hu : ∀ j, j < us.length → w.cell? ⟨b, off + j, none⟩ = some (.string (us.getD j .empty))) (hus : ∀ j, (us.getD j .empty).size ≤ maxLen) (hlen : us.length ≤ 9223372036854775807)
    (ht : ((lk tl s.data.toList).isSome || (lk (vpairs vl) s.data.toList).isSome) = false) (hn : vl.length < 8) (j0 : Nat) (hm : Miss tl us j0) :
    Calls Try.prog 8 #[.pointer (some ⟨cb, 0, none⟩), .string s, .slice (some ⟨b, off, none⟩) us.length c] w fun e w' => e = .returned (.int .i64 6) ∧ Below w.heap.size w w' := by
  have ct := taken_any h s hs ht
  have c0 : ∀ w', Below w.heap.size w w' → w'.cell? ⟨cb, 0, none⟩ = some (.map (some tb)) := fun w' hb => (h.kept hb.block).c0
  have c1 : ∀ w', Below w.heap.size w w' → w'.cell? ⟨cb, 1, none⟩ = some (.map (some vb)) := fun w' hb => (h.kept hb.block).c1
  have lv : ∀ w', Below w.heap.size w w' → (Builtin.len_ #[66] 3 #[.map (some vb)]).run Try.prog w' = .ok (.int .i64 vl.length) w' := fun w' hb => h.lenV 3 hb.block
  have hn' : ¬ 8 ≤ vl.length := by omega
  have hcell : ∀ w', Below w.heap.size w w' → ∀ j, j < us.length → w'.cell? ⟨b, off + j, none⟩ = some (.string (us.getD j .empty)) := fun w' hb j hj => by rw [cell_same (hb.block _ (cell_lt (hu j hj)))]; exact hu j hj
  have look : ∀ j, ∃ (nm : ByteArray) (p : Option Addr) (l c : Nat) (k : Int), ∀ w', Below w.heap.size w w' → (Instr.lookup 65 (.map (some tb)) (.string (us.getD j .empty)) true).run Try.prog w' = .ok (.tuple #[.agg #[.string nm, .slice p l c, .int .i64 k], .bool (lk tl (us.getD j .empty).data.toList).isSome]) w' := fun j => by
    obtain ⟨nm, p, l, c, k, _, hl⟩ := h.lookT (s := us.getD j .empty) (hus j)
    exact ⟨nm, p, l, c, k, fun w' hb => hl w' hb.block⟩
  clear ht hs h hu hus hn
  obtain ⟨m1, m2, m3⟩ := hm
  go_enter Try.func8, Try.ntmps8
  go_wp2_with (go_at_call 20; refine ct.mono ?_; rintro e w' ⟨rfl, hb⟩; have c1 := c1 _ hb; have lv := lv _ hb)
  go_loopw [27] (fun i wr => ∃ j : Nat, j ≤ j0 ∧ i = .int .i64 j ∧ Below w.heap.size w wr) (fun i _ => us.length - (intOf i).toNat)
  case atStart => exact ⟨0, by omega, rfl, hb⟩
  case round =>
    obtain ⟨j, hj, rfl, hbr⟩ := hrel
    have hcj := hcell wr hbr j (by omega)
    have c0r := c0 wr hbr
    obtain ⟨nm, p, l, c', k, hl⟩ := look j
    have hl := hl wr hbr
    have hlt : j < us.length := by omega
    by_cases e : j = j0
    · subst e
      rw [m2] at hl
      clear hcell look c0 ct m1 m2 m3 lv c1
      generalize us.getD j .empty = x at hcj hl
      go_wp2
      go_ret
      exact ⟨rfl, hbr.alloc hbr.size _⟩
    · rw [m3 j (by omega)] at hl
      clear hcell look c0 ct m1 m2 m3 lv c1
      generalize us.getD j .empty = x at hcj hl
      go_wp2
      go_roundw
      case rel => exact ⟨j + 1, by omega, by go_num, hbr.alloc hbr.size _⟩
      case measure => simp [intOf]; omega
end
end Go.Proofs.Ytcappldcngolkaa

/- The cat seat: a view is added (goes on): it is there. -/
namespace Go.Proofs.Ytcappldcngolkaa
open Go Go.RowKit Go.WideMaps Go.WideElems Go.ChangeMaps Go.MapKept

section
variable {w : World} {cb tb vb : Nat} {tl : List (Bs × Value)} {vl : List VRow}
theorem StrAt.of_row {w : World} {base n : Nat} {v : Value} {us : List ByteArray} (h : w.ownsRow base 9 1 v n (us.map Value.string)) (hn : n = us.length) (hb : us.length * 16 ≤ 140737488355328) : StrAt w v us := by
  subst hn
  refine ⟨hb, ?_⟩
  obtain ⟨h1, ⟨rfl, h2⟩ | ⟨g, cap, cur, rfl, _, h3, h4, _, h5, h6⟩⟩ := h
  · exact .inl ⟨List.length_eq_zero_iff.1 h2, none, 0, rfl⟩
  · refine .inr ⟨g, 0, cap, rfl, fun j hj => ?_⟩
    rw [cell_at' h3]
    have : (cur.toList.take (us.length * 1))[j]? = (us.map Value.string)[j]? := by rw [h6]
    rw [List.getElem?_take_of_lt (by omega)] at this
    simp only [Nat.zero_add]
    rw [← Array.getElem?_toList, this]
    simp [hj]
where
  cell_at' {w : World} {b : Nat} {cur : Array Value} {e : TypeId} {fz : Nat × Nat} {j : Nat} (h : w.heap[b]? = some (.cells cur e fz)) : w.cell? ⟨b, j, none⟩ = cur[j]? := by
    simp [World.cell?, h]

/-- One map's block has turned, and nothing else of what was there. -/
theorem Cat.added {w' : World} (h : Cat w cb tb vb tl vl) {s : Bs} {v' : Value} {us : List ByteArray} (hm : SMap Try.prog 9 w' vb (vpairs vl ++ [(s, v')])) (ht : w.mapTurned w' vb) (hs : StrAt w v' us) (hsl : ∃ p l c, v' = .slice p l c) (hn : vl.length < 8) :
    Cat w' cb tb vb tl (vl ++ [⟨s, v', us⟩]) := by
  obtain ⟨es, clock, es', clock', hb, rfl⟩ := ht
  have oth : ∀ k, k ≠ vb → (setBlock w vb (.map es' clock')).heap[k]? = w.heap[k]? := fun k hk => heap_setBlock_other hb _ hk
  have ncell : ∀ {b o : Nat} {v : Value}, w.cell? ⟨b, o, none⟩ = some v → b ≠ vb := fun {b o v} hc e => by
    subst e
    simp [World.cell?, hb] at hc
  have keep : ∀ {b o : Nat} {v : Value}, w.cell? ⟨b, o, none⟩ = some v → (setBlock w vb (.map es' clock')).cell? ⟨b, o, none⟩ = some v := fun {b o v} hc => by
    rw [cell_same (oth _ (ncell hc))]; exact hc
  have str : ∀ {v us}, StrAt w v us → StrAt (setBlock w vb (.map es' clock')) v us := fun {v us} hs => by
    obtain ⟨h0, h | ⟨b, off, c, h1, h2⟩⟩ := hs
    · exact ⟨h0, .inl h⟩
    · exact ⟨h0, .inr ⟨b, off, c, h1, fun j hj => keep (h2 j hj)⟩⟩
  refine ⟨keep h.c0, keep h.c1, h.mt.block (oth _ h.ne), ?_, h.ne, h.tv, fun x hx => ?_, fun x hx => ?_, h.nt, by simp; omega⟩
  · simpa [vpairs] using hm
  · rcases List.mem_append.1 hx with hx | hx
    · exact str (h.us x hx)
    · simp at hx; subst hx; exact str hs
  · rcases List.mem_append.1 hx with hx | hx
    · exact h.sl x hx
    · simp at hx; subst hx; exact hsl

set_option maxRecDepth 100000 in
theorem view_added (h : Cat w cb tb vb tl vl) (s : ByteArray) (hs : s.size ≤ maxLen) (b off c : Nat) (us : List ByteArray) (hu : ∀ j, j < us.length → w.cell? ⟨b, off + j, none⟩ = some (.string (us.getD j .empty))) (hus : ∀ j, (us.getD j .empty).size ≤ maxLen) (hlen : us.length * 16 ≤ 140737488355328)
    (ht : ((lk tl s.data.toList).isSome || (lk (vpairs vl) s.data.toList).isSome) = false) (hn : vl.length < 8) (hm : ∀ j, j < us.length → (lk tl (us.getD j .empty).data.toList).isSome = true) :
    Calls Try.prog 8 #[.pointer (some ⟨cb, 0, none⟩), .string s, .slice (some ⟨b, off, none⟩) us.length c] w fun e w' => e = .returned (.int .i64 0) ∧ ∃ v', Cat w' cb tb vb tl (vl ++ [⟨s.data.toList, v', us⟩]) ∧ w.grownBy w' (some vb) := by
  have ct := taken_any h s hs ht
  have c0 : ∀ w', Below w.heap.size w w' → w'.cell? ⟨cb, 0, none⟩ = some (.map (some tb)) := fun w' hb => (h.kept hb.block).c0
  have c1 : ∀ w', Below w.heap.size w w' → w'.cell? ⟨cb, 1, none⟩ = some (.map (some vb)) := fun w' hb => (h.kept hb.block).c1
  have c1' := c1
  have lv : ∀ w', Below w.heap.size w w' → (Builtin.len_ #[66] 3 #[.map (some vb)]).run Try.prog w' = .ok (.int .i64 vl.length) w' := fun w' hb => h.lenV 3 hb.block
  have hn' : ¬ 8 ≤ vl.length := by omega
  have hcell : ∀ w', Below w.heap.size w w' → ∀ j, j < us.length → w'.cell? ⟨b, off + j, none⟩ = some (.string (us.getD j .empty)) := fun w' hb j hj => by rw [cell_same (hb.block _ (cell_lt (hu j hj)))]; exact hu j hj
  have look : ∀ j, ∃ (nm : ByteArray) (p : Option Addr) (l c : Nat) (k : Int), ∀ w', Below w.heap.size w w' → (Instr.lookup 65 (.map (some tb)) (.string (us.getD j .empty)) true).run Try.prog w' = .ok (.tuple #[.agg #[.string nm, .slice p l c, .int .i64 k], .bool (lk tl (us.getD j .empty).data.toList).isSome]) w' := fun j => by
    obtain ⟨nm, p, l, c, k, _, hl⟩ := h.lookT (s := us.getD j .empty) (hus j)
    exact ⟨nm, p, l, c, k, fun w' hb => hl w' hb.block⟩
  have clone : ∀ w', Below w.heap.size w w' → Calls Try.prog 24 #[.slice (some ⟨b, off, none⟩) us.length c] w' fun e w2 => ∃ p l c', e = .returned (.slice p l c') ∧ StrAt w2 (.slice p l c') us ∧ Below w.heap.size w w2 := fun w' hb => by
    refine (Try.slices_Clone_string b off us.length c us w' (Nat.le_refl _) hlen (hcell w' hb)).mono fun e w2 he => ?_
    obtain ⟨v', rfl, hown, _, hb2⟩ := he
    rw [List.take_length] at hown
    have hst := StrAt.of_row hown rfl hlen
    have hsl : ∃ p l c, v' = .slice p l c := by
      obtain ⟨_, ⟨rfl, _⟩ | ⟨g, cap, cur, rfl, _⟩⟩ := hown <;> exact ⟨_, _, _, rfl⟩
    obtain ⟨p, l, c', rfl⟩ := hsl
    exact ⟨p, l, c', rfl, hst, hb.trans (hb2.mono hb.size)⟩
  have store : ∀ w2 p l c', Below w.heap.size w w2 → StrAt w2 (.slice p l c') us → ∃ w3, (Instr.mapUpdate 66 (.map (some vb)) (.string s) (.slice p l c')).run Try.prog w2 = .ok () w3 ∧ (∃ v', Cat w3 cb tb vb tl (vl ++ [⟨s.data.toList, v', us⟩]) ∧ w.grownBy w3 (some vb)) := fun w2 p l c' hb hst => by
    have h2 := h.kept hb.block
    have hnone : lk (vpairs vl) s.data.toList = none := by
      cases hx : lk (vpairs vl) s.data.toList with
      | none => rfl
      | some v => rw [hx] at ht; simp at ht
    obtain ⟨w3, hrun, hm3, ht3⟩ := h2.mv.store Try.underlying9 Try.underlying66 (by rw [vpairs_length]; unfold maxLen; omega) hs hnone (.slice p l c')
    exact ⟨w3, hrun, _, h2.added hm3 ht3 hst ⟨_, _, _, rfl⟩ hn, grown_of hb ht3.grown⟩
  have hlen' : us.length ≤ 9223372036854775807 := by omega
  clear ht hs h hu hus hn hlen
  go_enter Try.func8, Try.ntmps8
  go_wp2_with (go_at_call 20; refine ct.mono ?_; rintro e w' ⟨rfl, hb⟩; have c1 := c1 _ hb; have lv := lv _ hb)
  go_loopw [27] (fun i wr => ∃ j : Nat, j ≤ us.length ∧ i = .int .i64 j ∧ Below w.heap.size w wr) (fun i _ => us.length - (intOf i).toNat)
  case atStart => exact ⟨0, by omega, rfl, hb⟩
  case round =>
    obtain ⟨j, hj, rfl, hbr⟩ := hrel
    clear lv c1
    have c1r := c1' wr hbr
    by_cases e : j < us.length
    · have hcj := hcell wr hbr j e
      have c0r := c0 wr hbr
      obtain ⟨nm, p, l, c', k, hl⟩ := look j
      have hl := hl wr hbr
      rw [hm j e] at hl
      clear hcell look c0 ct hm clone store c1r c1'
      generalize us.getD j .empty = x at hcj hl
      go_wp2
      go_roundw
      case rel => exact ⟨j + 1, by omega, by go_num, hbr.alloc hbr.size _⟩
      case measure => simp [intOf]; omega
    · have hje : j = us.length := by omega
      subst hje
      clear hcell look c0 ct hm
      go_wp2
      have cl := clone wr.drew hbr.drew
      clear clone
      go_region_with (go_at_call 24; refine cl.mono ?_; rintro e w2 ⟨p, l, c', rfl, hst, hb2⟩; have c1w := c1' w2 hb2; obtain ⟨w3, hrun, hpost⟩ := store w2 p l c' hb2 hst)
      all_goals
        clear store cl
        go_wp2
        go_ret
        exact ⟨rfl, hpost⟩
end
end Go.Proofs.Ytcappldcngolkaa

/- The cat seat: the views that use a table. -/
namespace Go.Proofs.Ytcappldcngolkaa
open Go Go.RowKit Go.WideMaps Go.WideElems Go.Sort Go.Maps

section
variable {w : World} {cb tb vb : Nat} {tl : List (Bs × Value)} {vl : List VRow}
theorem contains_calls {v : Value} {us : List ByteArray} (h : StrAt w v us) (t : ByteArray) : Calls Try.prog 25 #[v, .string t] w fun e w' => e = .returned (.bool (Lib.containsS us t)) ∧ w = w' := by
  refine Calls.mono (R := fun e w' => e = .returned (.bool (Lib.containsS us t)) ∧ w' = w) ?_ fun e w' h => ⟨h.1, h.2.symm⟩
  obtain ⟨h0, ⟨rfl, a, c, rfl⟩ | ⟨b, off, c, rfl, h2⟩⟩ := h
  · exact Try.slices_Contains_string_empty a c t w
  · have := Try.slices_Contains_string b off us.length c us t w (Nat.le_refl _) (by omega) h2
    rwa [List.take_length] at this
/-- The views that use a table. -/
def usersOf (vl : List VRow) (t : ByteArray) : List Bs := (vl.filter fun x => Lib.containsS x.uses t).map (·.name)
structure Got (vl : List VRow) (t : ByteArray) (left : Lit → Bool) (ss : List Bs) : Prop where
  nd : ss.Nodup
  mem : ∀ s, s ∈ ss ↔ ∃ x ∈ vl, x.name = s ∧ left (.string s) = false ∧ Lib.containsS x.uses t = true
theorem Got.perm {vl : List VRow} {t : ByteArray} {left : Lit → Bool} {ss : List Bs} (h : Got vl t left ss) (hl : ∀ kl, left kl = false) (hn : (vl.map (·.name)).Nodup) : ss.Perm (usersOf vl t) := by
  refine (List.perm_ext_iff_of_nodup h.nd ?_).2 fun s => ?_
  · exact hn.sublist (List.Sublist.map _ List.filter_sublist)
  · rw [h.mem]
    simp only [usersOf, List.mem_map, List.mem_filter, hl, true_and]
    constructor
    · rintro ⟨x, hx, e, hc⟩; exact ⟨x, ⟨hx, hc⟩, e⟩
    · rintro ⟨x, ⟨hx, hc⟩, e⟩; exact ⟨x, hx, e, hc⟩
theorem row_name {vl : List VRow} (hn : (vl.map (·.name)).Nodup) {x y : VRow} (hx : x ∈ vl) (hy : y ∈ vl) (e : x.name = y.name) : x = y := by
  induction vl with
  | nil => cases hx
  | cons z l ih =>
    simp only [List.map_cons, List.nodup_cons, List.mem_map, not_exists, not_and] at hn
    rcases List.mem_cons.1 hx with rfl | hx
    · rcases List.mem_cons.1 hy with rfl | hy
      · rfl
      · exact absurd e.symm (hn.1 y hy)
    · rcases List.mem_cons.1 hy with rfl | hy
      · exact absurd e (hn.1 x ‹x ∈ l›)
      · exact ih hn.2 hx hy
/-- A view has come; does it use the table? -/
theorem Got.step {vl : List VRow} {t : ByteArray} {left : Lit → Bool} {ss : List Bs} (h : Got vl t left ss) (hn : (vl.map (·.name)).Nodup) {x : VRow} (hx : x ∈ vl) (hl : left (.string x.name) = true) :
    Got vl t (fun z => left z && !z.sameKey (.string x.name)) (if Lib.containsS x.uses t then ss ++ [x.name] else ss) := by
  have same : ∀ s : Bs, (Lit.string s).sameKey (.string x.name) = decide (s = x.name) := fun s => by
    rw [Bool.eq_iff_iff, WideAt.sameKey_iff (by simp [WideAt.IsKeyLit])]
    simp
  have hns : x.name ∉ ss := fun hm => by
    obtain ⟨y, _, e, h2, _⟩ := (h.mem _).1 hm
    rw [hl] at h2; cases h2
  refine ⟨?_, fun s => ?_⟩
  · split
    · rw [List.nodup_append]
      exact ⟨h.nd, by simp, fun a ha b hb => by simp at hb; subst hb; exact fun e => hns (e ▸ ha)⟩
    · exact h.nd
  · have key : (∃ y ∈ vl, y.name = s ∧ (left (.string s) && !(Lit.string s).sameKey (.string x.name)) = false ∧ Lib.containsS y.uses t = true) ↔ s ∈ ss ∨ (s = x.name ∧ Lib.containsS x.uses t = true) := by
      rw [h.mem]
      constructor
      · rintro ⟨y, hy, rfl, h2, h3⟩
        rw [same] at h2
        by_cases e : y.name = x.name
        · obtain rfl := row_name hn hy hx e
          exact .inr ⟨rfl, h3⟩
        · simp [e] at h2
          exact .inl ⟨y, hy, rfl, h2, h3⟩
      · rintro (⟨y, hy, rfl, h2, h3⟩ | ⟨rfl, h3⟩)
        · exact ⟨y, hy, rfl, by simp [h2], h3⟩
        · exact ⟨x, hx, rfl, by rw [same]; simp, h3⟩
    rw [key]
    split
    · rename_i hc
      simp [hc]
    · rename_i hc
      simp [hc]

theorem info9 : (Try.prog.info? 9).map (fun i => (i.zero, i.size, i.bytes)) = some (some (.string ⟨#[]⟩), 1, 16) := by kernel_rfl

set_option maxRecDepth 100000 in
set_option maxHeartbeats 1000000 in
theorem users_calls (h : Cat w cb tb vb tl vl) (t : ByteArray) :
    Calls Try.prog 9 #[.pointer (some ⟨cb, 0, none⟩), .string t] w fun e w' => ∃ p c, ∃ ss : List Bs, e = .returned (.slice p ss.length c) ∧ ss.Perm (usersOf vl t) ∧ w'.ownsRow w.heap.size 9 1 (.slice p ss.length c) ss.length ((ss.mergeSort fun x y => decide (x ≤ y)).map encStr) ∧ Below w.heap.size w w' := by
  obtain ⟨D, hown, hsz, hD⟩ := h.mv.own
  have law9 : Maps.Keyed Try.prog 9 := Maps.string_keyed Try.underlying9
  obtain ⟨i0, hi, hz0, hz1, hz2⟩ := info_parts info9
  have c1 := h.c1
  have hbl := hown.lt
  have hnv := h.nv
  have hnd : (vl.map (·.name)).Nodup := by have := h.mv.nd; rw [vpairs, List.map_map] at this; exact this
  have hcl := cell_lt c1
  rw [vpairs_length] at hown hsz
  go_enter Try.func9, Try.ntmps9
  go_wp2_with (first
    | (at_range; refine wpList_range_own _ rfl _ 66 rfl 9 22 law9 Try.underlying66 _ vb _ _ rfl hown ?_; intro w0 hrg0 hg0 hs0)
    | go_in)
  go_frame
  go_loopw [5] (fun v wr => ∃ (left : Lit → Bool) (cnt : Nat) (ss : List Bs), wr.ranges Try.prog 9 hold vb w.heap.size vl.length D left cnt ∧ ss.length + cnt ≤ vl.length ∧
      wr.ownsRow w.heap.size 9 1 v ss.length (ss.map encStr) ∧ Got vl t left ss ∧ Below w.heap.size w wr)
    (fun _ wr => wr.rangeLeft vb w.heap.size)
  case atStart =>
    refine ⟨_, _, [], hrg0, by simp [hsz], World.ownsRow_nil _ _ _ _, ⟨by simp, fun s => ?_⟩, (Below.refl _ _).grown hg0 (Nat.le_refl _) (fun j hj => by cases hj)⟩
    simp only [List.not_mem_nil, false_iff, not_exists, not_and]
    intro x hx e h2
    subst e
    rw [(hD _).1] at h2
    have hm : x.name ∈ (vpairs vl).map (·.1) := List.mem_map.2 ⟨(x.name, x.val), List.mem_map.2 ⟨x, hx, rfl⟩, rfl⟩
    cases hl : lk (vpairs vl) x.name with
    | none => exact absurd hm (lk_none.1 hl)
    | some v => rw [hl] at h2; cases h2
  case round =>
    obtain ⟨left, cnt, ss, hrg, hcs, hrow, hC, hnx⟩ := hrel
    go_wp2_with (first
      | (at_next; refine wpList_next_ranges _ rfl _ rfl 9 law9 hold encStr (fun v : Value => v) (fun key kl hk => by obtain ⟨x, hx, _⟩ := Maps.keyOf_str Try.underlying9 hk; exact ⟨x, hx⟩) (fun v y hv => ⟨v, rfl⟩) vb w.heap.size vl.length _ _ _ rfl hrg ?_ ?_)
      | go_in)
    · intro hc0 hl0
      have hp := hC.perm hl0 hnd
      have hss : ss.length < 4611686018427387904 := by omega
      rcases hrow.2 with ⟨rfl, h0⟩ | ⟨g, cap, cur, rfl, hbase, hb, h1, h2, h3, h4⟩
      · have hs0 : ss = [] := List.length_eq_zero_iff.1 h0
        subst hs0
        have hsort := Try.slices_Sort_string_none none 0 wr
        clear hD hown hsz hC hcs hss
        go_wp2_with (go_at_call 26; refine hsort.mono ?_; rintro e w' ⟨rfl, rfl⟩)
        go_ret
        exact ⟨none, 0, [], rfl, hp, by simpa using World.ownsRow_nil _ _ _ _, hnx⟩
      · have hH : Holds encStr wr g 0 ss.toArray := holds_of_block hb (by simpa using h4)
        have hgl : g < wr.heap.size := (Array.getElem?_eq_some_iff.1 hb).1
        have hsort := Try.slices_Sort_string g 0 cap ss wr hH hgl hss
        have post : ∀ nn os, (grow (putRow encStr (Sort.ahead wr nn) g 0 (ss.mergeSort fun x y => decide (x ≤ y)).toArray) os).ownsRow w.heap.size 9 1 (.slice (some ⟨g, 0, none⟩) ss.length cap) ss.length ((ss.mergeSort fun x y => decide (x ≤ y)).map encStr) ∧ Below w.heap.size w (grow (putRow encStr (Sort.ahead wr nn) g 0 (ss.mergeSort fun x y => decide (x ≤ y)).toArray) os) := fun nn os =>
          ⟨ownsRow_sorted (by simp) hbase hb h1 h2 h3, hnx.grown (grownBy_sorted _) hnx.size (fun j hj => by cases hj; exact hbase)⟩
        clear hD hown hsz hC hcs hss h4 hH hrg
        go_wp2_with (go_at_call 26; refine hsort.mono ?_; rintro e w' ⟨rfl, nn, os, rfl⟩)
        go_ret
        exact ⟨some ⟨g, 0, none⟩, cap, ss, rfl, hp, post nn os⟩
    · intro x c kl yd yp w2 cnt2 hkey hlk hv hat hrg2 hlt hg2 hs2 hen
      obtain ⟨x', ex, rfl, _⟩ := Maps.keyOf_str Try.underlying9 hkey
      obtain rfl : x = x' := encStr_inj ex
      obtain ⟨row, hrw, rfl, rfl⟩ : ∃ row ∈ vl, row.name = x ∧ row.val = c := by
        have h1 := hat (.lit (.bool true))
        rw [(hD x).2] at h1
        have h2 := hold_inj hv
        cases hl : lk (vpairs vl) x with
        | none => rw [hl, h2] at h1; cases h1
        | some u =>
          rw [hl, h2] at h1
          cases h1
          obtain ⟨p, hp, e1, e2⟩ := lk_mem hl
          obtain ⟨r, hr, rfl⟩ := List.mem_map.1 hp
          exact ⟨r, hr, e1, e2⟩
      have hb2 : Below w.heap.size w w2 := hnx.grown hg2 hnx.size (fun j hj => by cases hj; exact Nat.le_refl _)
      have hcon := contains_calls ((h.us row hrw).kept hb2.block) t
      have hstep := hC.step hnd hrw hlk
      have hrow2 := hrow.kept hg2 (Or.inr (row_ne_iter hrow hrg).symm)
      clear hs2 hat hv hkey ex hD hown hsz hC
      by_cases hc : Lib.containsS row.uses t = true
      · rw [hc] at hcon
        rw [if_pos hc] at hstep
        clear hc
        go_wp2_with (first
          | (go_at_call 25; refine hcon.mono ?_; rintro e w' ⟨rfl, rfl⟩)
          | (at_builtin; refine wpList_append_own _ rfl _ _ 22 rfl w.heap.size 9 i0 (.string ⟨#[]⟩) 1 16 Try.underlying22 hi hz0 hz1 hz2 rfl (by decide) _ _ _ rfl (hrow2.alloc _) ⟨w2.heap.size, 0, none⟩ 1 1 [encStr row.name] rfl rfl (cell_one_new _ _ _) (by simp [Value.oneCell', encStr]) (by unfold maxLen at *; omega) (by omega) (by have := hnx.size; have := hg2.size; simp; omega) ?_; intro v' w3 hown' hg3 hnil3; go_frame)
          | go_in)
        have hrg3 := (hrg2.alloc _).kept hg3 (row_ne_low hrow2 hbl) (row_ne_iter hrow2 hrg2)
        go_roundw
        case rel =>
          refine ⟨_, cnt2, ss ++ [row.name], hrg3, by simp; omega, by simpa using hown', hstep, ?_⟩
          exact (hb2.alloc hb2.size _).grown hg3 (by have := hb2.size; simp; omega) (fun j hj => (hrow2.lt j hj).1)
        case measure => rw [hrg3.left_eq, hrg.left_eq]; exact hlt
      · have hc' : Lib.containsS row.uses t = false := by simpa using hc
        rw [hc'] at hcon
        rw [if_neg hc] at hstep
        clear hc hc'
        go_wp2_with (go_at_call 25; refine hcon.mono ?_; rintro e w' ⟨rfl, rfl⟩)
        go_roundw
        case rel => exact ⟨_, cnt2, ss, hrg2, by omega, hrow2, hstep, hb2⟩
        case measure => rw [hrg2.left_eq, hrg.left_eq]; exact hlt
end
end Go.Proofs.Ytcappldcngolkaa
