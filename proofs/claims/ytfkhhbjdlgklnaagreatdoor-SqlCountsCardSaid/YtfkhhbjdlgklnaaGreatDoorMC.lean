/- The abstract machine, part 14: maps that are written, iterators, bytes as a string. -/
import Derived.Test.YtfkhhbjdlgklnaaGreatDoorMB
import Derived.Lib.UnsafeStr
import Derived.Orders
namespace Go.AM
open Go Go.RowKit
noncomputable section

section
variable {γ : Gam} {B : Nat} {H : AHeap} {w : World} {C : Cx} {P : Program}

/-! ### An object that is no row of cells is written -/
theorem Rel.setObj (r : Rel γ B H w) {x : Nat} {g : G} {o o' : AObj} {b b' : Obj} (hx : γ x = some g) (ho : H.get x = some o) (hal : o.alive = true) (hown : o.own = true) (hb : w.heap[g.b]? = some b) (hcell : ∀ c e fz, b ≠ .cells c e fz)
    (hn : ORel γ g (some b') o') : GoesU γ B H w (H.put x o') ((Go.setObj g.b b').run P w) := by
  have hlt := r.lt x g hx
  have hsame : (w.putObj g.b b').heap[g.b]? = some b' := World.putObj_heap_same hlt
  refine ⟨w.putObj g.b b', ?_, r.upd hx ho hal hown World.putObj_size (fun k hk => World.putObj_heap_other hk) (by rw [hsame]; exact hn), Ext.upd hx _, ?_⟩
  · cases b <;> first | (exact absurd rfl (hcell _ _ _)) | simp [Go.setObj, Sem.run, hb, World.putObj]
  · refine ⟨rfl, rfl, rfl, Nat.le_of_eq World.putObj_size.symm, fun k hk => World.putObj_heap_other ?_⟩
    have := r.own x g _ hx ho hown
    omega

/-! ### Maps -/
theorem EsRel.get {es es' : List MapEntry} (h : EsRel γ es es') : ∀ {i : Nat} {e : MapEntry}, es[i]? = some e → ∃ e', es'[i]? = some e' ∧ VRel γ e.key e'.key ∧ VRel γ e.val e'.val ∧ e.born = e'.born := by
  induction h with
  | nil => intro i e h; simp at h
  | cons hk hv hb _ ih =>
    intro i e h
    cases i with
    | zero => simp at h; subst h; exact ⟨_, rfl, hk, hv, hb⟩
    | succ i => simpa using ih (by simpa using h)
theorem EsRel.modify {es es' : List MapEntry} (h : EsRel γ es es') {k v v' : Value} (hk : gnd k = true) (hv : VRel γ v v') : ∀ (i : Nat),
    EsRel γ (es.modify i fun e => { e with key := k, val := v }) (es'.modify i fun e => { e with key := k, val := v' }) := by
  induction h with
  | nil => intro i; simp; exact .nil
  | cons hk' hv' hb hl ih =>
    intro i
    cases i with
    | zero => simp [List.modify]; exact .cons (gnd_rel k hk) hv hb hl
    | succ i => simp [List.modify]; exact .cons hk' hv' hb (by simpa [List.modify] using ih i)
theorem EsRel.append {es es' : List MapEntry} (h : EsRel γ es es') {l l' : List MapEntry} (k : EsRel γ l l') : EsRel γ (es ++ l) (es' ++ l') := by
  induction h with
  | nil => exact k
  | cons hk hv hb _ ih => exact .cons hk hv hb ih
theorem EsRel.eraseIdx {es es' : List MapEntry} (h : EsRel γ es es') : ∀ (i : Nat), EsRel γ (es.eraseIdx i) (es'.eraseIdx i) := by
  induction h with
  | nil => intro i; simp; exact .nil
  | cons hk hv hb hl ih =>
    intro i
    cases i with
    | zero => simpa using hl
    | succ i => simpa using .cons hk hv hb (ih i)

def amapUpdate (C : Cx) (P : Program) (H : AHeap) (t : TypeId) (m k v : Value) : Option AHeap := match C.und t, m with
  | some (.map kt _), .map (some x) => (match H.get x with
    | some (.map es clock) => (match prun P (Instr.checkKey false 10000 kt k), afind C P kt k es with
      | some _, some (some (i, _)) => (match es[i]? with
        | some e => bif gnd e.key && Instr.sameBits 10000 e.key k then rebuild (es.modify i fun e => { e with key := k, val := v }) (fun es => some (H.put x (.map es clock))) else none
        | none => none)
      | some _, some none => rebuild (es ++ [{ key := k, val := v, born := clock }]) (fun es => some (H.put x (.map es (clock + 1))))
      | _, _ => none)
    | _ => none)
  | _, _ => none
theorem amapUpdate_sound (hF : C.Fits P) (r : Rel γ B H w) {t : TypeId} {m m' k k' v v' : Value} {H' : AHeap} (hm : VRel γ m m') (hk : VRel γ k k') (hv : VRel γ v v') (h : amapUpdate C P H t m k v = some H') :
    GoesU γ B H w H' ((Instr.mapUpdate t m' k' v').run P w) := by
  unfold amapUpdate at h
  split at h
  · rename_i kt et x hu
    split at h
    · rename_i es clock ho
      cases hm with
      | @map _ g hx =>
        obtain ⟨es', h1, h2⟩ := r.obj _ _ _ hx ho
        split at h
        · rename_i u i v0 hchk hfind
          have hg : gnd k = true := by
            unfold afind at hfind
            split at hfind
            · cases hg : gnd k with
              | true => rfl
              | false => rw [hg] at hfind; cases hfind
            · cases hfind
          obtain ⟨rfl, r', h3, h4⟩ := afind_sound (w := w) hF hk h2 hfind
          split at h
          · rename_i e he
            cases hc : (gnd e.key && Instr.sameBits 10000 e.key k') with
            | false => rw [hc] at h; cases h
            | true =>
              rw [hc] at h
              simp only [cond_true, rebuild_eq] at h
              cases h
              simp only [Bool.and_eq_true] at hc
              obtain ⟨e', h5, h6, h7, h8⟩ := h2.get he
              have hke : e'.key = e.key := gnd_eq h6 hc.1
              cases h4 with
              | some hvv =>
                rename_i v0'
                obtain ⟨w', q1, q2⟩ := r.setObj (P := P) (b' := .map (es'.modify i fun e => { e with key := k', val := v' }) clock) hx ho rfl rfl h1 (fun _ _ _ h => by cases h) (o' := .map (es.modify i fun e => { e with key := k', val := v }) clock)
                  ⟨_, rfl, by have := h2.modify hg hv i; simpa [Array.toList_modify] using this⟩
                refine ⟨w', ?_, q2⟩
                have h5' : es'[i]? = some e' := by simpa using h5
                simp only [Instr.mapUpdate, Sem.run_bind, run_und hF hu, Result.andThen_ok, run_getMap h1, prun_run hchk w, h3, h5', Option.map_some, Option.getD_some, hke, Instr.keyThatStays, hc.2, if_true, Sem.run_pure, q1]
          · cases h
        · rename_i u hchk hfind
          have hg : gnd k = true := by
            unfold afind at hfind
            split at hfind
            · cases hg : gnd k with
              | true => rfl
              | false => rw [hg] at hfind; cases hfind
            · cases hfind
          obtain ⟨rfl, r', h3, h4⟩ := afind_sound (w := w) hF hk h2 hfind
          cases h4
          rw [rebuild_eq] at h
          cases h
          obtain ⟨w', q1, q2⟩ := r.setObj (P := P) (b' := .map (es'.push { key := k', val := v', born := clock }) (clock + 1)) hx ho rfl rfl h1 (fun _ _ _ h => by cases h) (o' := .map (es ++ [{ key := k', val := v, born := clock }]) (clock + 1))
            ⟨_, rfl, by rw [Array.toList_push]; exact h2.append (.cons (gnd_rel _ hg) hv rfl .nil)⟩
          refine ⟨w', ?_, q2⟩
          simp only [Instr.mapUpdate, Sem.run_bind, run_und hF hu, Result.andThen_ok, run_getMap h1, prun_run hchk w, h3, q1]
        · cases h
    · cases h
  · cases h

def adelete (C : Cx) (P : Program) (H : AHeap) (t : TypeId) (m k : Value) : Option AHeap := match C.und t, m with
  | some (.map kt _), .map none => bif gnd k then (match prun P (Instr.checkKey true 10000 kt k) with
    | some _ => some H
    | none => none) else none
  | some (.map kt _), .map (some x) => (match H.get x with
    | some (.map es clock) => (match prun P (Instr.checkKey es.isEmpty 10000 kt k), afind C P kt k es with
      | some _, some (some (i, _)) => rebuild (es.eraseIdx i) (fun es => some (H.put x (.map es clock)))
      | some _, some none => some (H.put x (.map es clock))
      | _, _ => none)
    | _ => none)
  | _, _ => none
theorem adelete_sound (hF : C.Fits P) (r : Rel γ B H w) {nid : Nat} {t t2 ty : TypeId} {m m' k k' : Value} {H' : AHeap} (hm : VRel γ m m') (hk : VRel γ k k') (h : adelete C P H t m k = some H') :
    Goes nid γ B H w unk H' ((Builtin.delete_ #[t, t2] ty #[m', k']).run P w) := by
  unfold adelete at h
  have fin : ∀ {H' : AHeap}, GoesU γ B H w H' ((Builtin.delete_ #[t, t2] ty #[m', k']).run P w |>.andThen fun _ w => .ok () w) → (∀ v w', (Builtin.delete_ #[t, t2] ty #[m', k']).run P w = .ok v w' → v = .tuple #[]) →
      Goes nid γ B H w unk H' ((Builtin.delete_ #[t, t2] ty #[m', k']).run P w) := fun ⟨w', q1, q2, q3, q4⟩ hv => by
    cases hr : (Builtin.delete_ #[t, t2] ty #[m', k']).run P w with
    | ok v w'' =>
      rw [hr] at q1; simp at q1; subst q1
      have := hv v w'' hr; subst this
      exact ⟨γ, _, w'', rfl, .tuple .nil, q2, q3.x, q4⟩
    | halt s w'' => rw [hr] at q1; cases q1
  split at h
  · rename_i kt et hu
    cases hm
    cases hg : gnd k with
    | false => rw [hg] at h; cases h
    | true =>
      rw [hg] at h
      simp only [cond_true] at h
      split at h
      · rename_i u hchk
        cases h
        rw [gnd_eq hk hg]
        refine Goes.quiet r ?_ (.tuple .nil)
        simp [Builtin.delete_, run_und hF hu, prun_run hchk w]
      · cases h
  · rename_i kt et x hu
    split at h
    · rename_i es clock ho
      cases hm with
      | @map _ g hx =>
        obtain ⟨es', h1, h2⟩ := r.obj _ _ _ hx ho
        have hemp : es.isEmpty = es'.isEmpty := by rw [h2.empty]; simp
        split at h
        · rename_i u i v0 hchk hfind
          obtain ⟨rfl, r', h3, h4⟩ := afind_sound (w := w) hF hk h2 hfind
          rw [rebuild_eq] at h
          cases h
          have hc := prun_run hchk w
          rw [hemp] at hc
          cases h4 with
          | some hvv =>
            obtain ⟨w', q1, q2, q3, q4⟩ := r.setObj (P := P) (b' := .map (es'.eraseIdxIfInBounds i) clock) hx ho rfl rfl h1 (fun _ _ _ h => by cases h) (o' := .map (es.eraseIdx i) clock)
              ⟨_, rfl, by
                have := h2.eraseIdx i
                unfold Array.eraseIdxIfInBounds
                split
                · simpa using this
                · rename_i hlt
                  rw [List.eraseIdx_of_length_le (l := es'.toList) (by simp at hlt ⊢; omega)] at this
                  exact this⟩
            refine ⟨γ, .tuple #[], w', ?_, .tuple .nil, q2, q3.x, q4⟩
            simp [Builtin.delete_, run_und hF hu, run_getMap h1, hc, h3, q1]
        · rename_i u hchk hfind
          obtain ⟨rfl, r', h3, h4⟩ := afind_sound (w := w) hF hk h2 hfind
          cases h
          have hc := prun_run hchk w
          rw [hemp] at hc
          cases h4
          obtain ⟨w', q1, q2, q3, q4⟩ := r.setObj (P := P) (b' := .map es' clock) hx ho rfl rfl h1 (fun _ _ _ h => by cases h) (o' := .map es clock) ⟨_, rfl, h2⟩
          refine ⟨γ, .tuple #[], w', ?_, .tuple .nil, q2, q3.x, q4⟩
          simp [Builtin.delete_, run_und hF hu, run_getMap h1, hc, h3, q1]
        · cases h
    · cases h
  · cases h

/-! ### Iterators -/
def arange (C : Cx) (H : AHeap) (nid : Nat) (t : TypeId) (x : Value) : Option (Value × AHeap) := match C.und t, x with
  | some .string, .string s => some (.pointer (some ⟨nid, 0, none⟩), H.put nid (.siter s 0))
  | some (.map _ _), .map none => some (.pointer (some ⟨nid, 0, none⟩), H.put nid (.miter none 0 [] 0))
  | some (.map _ _), .map (some m) => (match H.get m with
    | some (.map _ clock) => some (.pointer (some ⟨nid, 0, none⟩), H.put nid (.miter (some m) clock [] clock))
    | _ => none)
  | _, _ => none
theorem arange_sound (hF : C.Fits P) (r : Rel γ B H w) {nid : Nat} (hn : γ nid = none) {t : TypeId} {x x' : Value} (hx : VRel γ x x') {xr : Value × AHeap} (h : arange C H nid t x = some xr) :
    Goes nid γ B H w xr.1 xr.2 ((Instr.range t x').run P w) := by
  have fin : ∀ (b : Obj) (o : AObj), ORel (γ.put nid ⟨w.heap.size, 0, 0⟩) ⟨w.heap.size, 0, 0⟩ (some b) o → (Instr.range t x').run P w = .ok (.pointer (some ⟨w.heap.size, 0, none⟩)) (w.alloc b) →
      Goes nid γ B H w (.pointer (some ⟨nid, 0, none⟩)) (H.put nid o) ((Instr.range t x').run P w) := fun b o ho hr =>
    ⟨_, _, _, hr, .ptr (g := ⟨w.heap.size, 0, 0⟩) (Gam.put_same _ _ _), r.alloc hn b 0 ho, ExtX.put hn _ _, below_alloc r _⟩
  unfold arange at h
  split at h
  · rename_i s hu
    cases h; cases hx
    exact fin (.stringIter s 0) _ ⟨rfl, rfl⟩ (by simp [Instr.range, run_und hF hu])
  · rename_i hu
    cases h; cases hx
    exact fin (.mapIter none 0 #[] 0) _ ⟨rfl, none, rfl, .inl ⟨rfl, rfl⟩⟩ (by simp [Instr.range, run_und hF hu])
  · rename_i m hu
    split at h
    · rename_i es clock ho
      cases h
      cases hx with
      | @map _ g hx =>
        obtain ⟨es', h1, h2⟩ := r.obj _ _ _ hx ho
        exact fin (.mapIter (some g.b) clock #[] clock) _ ⟨rfl, some g.b, rfl, .inr ⟨m, g, rfl, Gam.le_put hn _ _ hx, rfl⟩⟩ (by simp [Instr.range, run_und hF hu, run_getMap h1])
    · cases h
  · cases h

theorem EsRel.filter {es es' : List MapEntry} (h : EsRel γ es es') (p : Nat → Bool) : EsRel γ (es.filter fun e => p e.born) (es'.filter fun e => p e.born) := by
  induction h with
  | nil => exact .nil
  | cons hk hv hb _ ih =>
    rename_i e e' l l' _
    simp only [List.filter_cons]
    rw [← hb]
    cases p e.born with
    | true => exact .cons hk hv hb ih
    | false => simpa using ih
theorem EsRel.all {es es' : List MapEntry} (h : EsRel γ es es') (p : Nat → Bool) : es.all (fun e => p e.born) = es'.all fun e => p e.born := by
  induction h with
  | nil => rfl
  | cons hk hv hb _ ih => simp [ih, hb]

def anext (H : AHeap) (isString : Bool) (it : Value) : Option (Value × AHeap) := match it with
  | .pointer (some ⟨x, 0, none⟩) => (match H.get x, isString with
    | some (.siter s pos), true => bif Nat.blt pos s.size then (match Utf8.decode s pos with
        | (c, width) => some (.tuple ⟨[.bool true, .int .i64 pos, .int .i32 c]⟩, H.put x (.siter s (pos + width)))) else some (.tuple ⟨[.bool false]⟩, H)
    | some (.miter none _ _ _), false => some (.tuple ⟨[.bool false]⟩, H)
    | some (.miter (some m) since seen last), false => (match H.get m with
      | some (.map es clock) => bif !seen.isEmpty && !es.isEmpty && es.all (fun e => decide (e.born ≥ last)) then none else
          (match es.filter (fun e => !seen.contains e.born) with
          | [] => some (.tuple ⟨[.bool false]⟩, H)
          | [e] => bif decide (e.born < since) then some (.tuple ⟨[.bool true, e.key, e.val]⟩, H.put x (.miter (some m) since (seen ++ [e.born]) clock)) else none
          | _ => none)
      | _ => none)
    | _, _ => none)
  | _ => none

theorem run_getIter {r : Nat} {o : Obj} (h : w.heap[r]? = some o) (hc : ∀ c e fz, o ≠ .cells c e fz) : (getObj r).run P w = .ok o w := by
  cases o <;> first | exact absurd rfl (hc _ _ _) | simp [getObj, Sem.run, h]

theorem anext_sound (r : Rel γ B H w) {nid : Nat} {isString : Bool} {ty : TypeId} {it it' : Value} (hit : VRel γ it it') {xr : Value × AHeap} (h : anext H isString it = some xr) :
    Goes nid γ B H w xr.1 xr.2 ((Instr.next it' isString ty).run P w) := by
  unfold anext at h
  split at h
  · rename_i x
    cases hit with
    | @ptr _ _ g hx =>
    split at h
    · rename_i s pos ho
      obtain ⟨hgo, h1⟩ := r.obj _ _ _ hx ho
      have hget : (getObj g.b).run P w = .ok (.stringIter s pos) w := run_getIter h1 (fun _ _ _ h => by cases h)
      cases hb : Nat.blt pos s.size with
      | true =>
        rw [hb] at h
        simp only [cond_true] at h
        cases h
        rw [Nat.blt_eq] at hb
        obtain ⟨w', q1, q2, q3, q4⟩ := r.setObj (P := P) (b' := .stringIter s (pos + (Utf8.decode s pos).2)) hx ho rfl rfl h1 (fun _ _ _ h => by cases h) (o' := .siter s (pos + (Utf8.decode s pos).2)) ⟨hgo, rfl⟩
        refine ⟨γ, .tuple #[.bool true, .int .i64 pos, .int .i32 (Utf8.decode s pos).1], w', ?_, .tuple (.cons (.bool _) (.cons (.int _ _) (.cons (.int _ _) .nil))), q2, q3.x, q4⟩
        simp only [Instr.next, hgo, Nat.add_zero, Sem.run_bind, hget, Result.andThen_ok, hb, if_true, q1, Sem.run_pure, goInt]
      | false =>
        rw [hb] at h
        cases h
        have hb' : ¬ pos < s.size := fun h => by rw [← Nat.blt_eq, hb] at h; cases h
        refine Goes.quiet r (v' := .tuple #[.bool false]) ?_ (.tuple (.cons (.bool _) .nil))
        simp only [Instr.next, hgo, Nat.add_zero, Sem.run_bind, hget, Result.andThen_ok, hb', if_false, Sem.run_pure]
    · rename_i since seen last ho
      cases h
      obtain ⟨hgo, m', h1, h2⟩ := r.obj _ _ _ hx ho
      have hm' : m' = none := by
        rcases h2 with ⟨_, h⟩ | ⟨y, g', h, _⟩
        · exact h
        · cases h
      subst hm'
      have hget : (getObj g.b).run P w = .ok _ w := run_getIter h1 (fun _ _ _ h => by cases h)
      refine Goes.quiet r (v' := .tuple #[.bool false]) ?_ (.tuple (.cons (.bool _) .nil))
      simp only [Instr.next, hgo, Nat.add_zero, Sem.run_bind, hget, Result.andThen_ok, Sem.run_pure]
    · rename_i m since seen last ho
      obtain ⟨hgo, m', h1, h2⟩ := r.obj _ _ _ hx ho
      obtain ⟨gm, hm, rfl⟩ : ∃ gm, γ m = some gm ∧ m' = some gm.b := by
        rcases h2 with ⟨h, _⟩ | ⟨y, g', h, h3, h4⟩
        · cases h
        · cases h; exact ⟨g', h3, h4⟩
      have hget : (getObj g.b).run P w = .ok _ w := run_getIter h1 (fun _ _ _ h => by cases h)
      split at h
      · rename_i es clock hom
        obtain ⟨es', h3, h4⟩ := r.obj _ _ _ hm hom
        have hgetm := run_getMap (P := P) h3
        cases hc : (!seen.isEmpty && !es.isEmpty && es.all (fun e => decide (e.born ≥ last))) with
        | true => rw [hc] at h; cases h
        | false =>
          rw [hc] at h
          simp only [cond_false] at h
          have e1 : (!seen.toArray.isEmpty && !es'.isEmpty && es'.all (fun e => decide (e.born ≥ last))) = false := by
            rw [← hc]
            have e2 := h4.all (fun b => decide (b ≥ last))
            have e3 := h4.empty
            simp only [e2, e3, List.isEmpty_toArray]
            congr 1
            · simp
            · rw [← Array.all_toList]
          have e4 := h4.filter (fun b => !seen.contains b)
          have e5 : (es'.filter fun e => !seen.toArray.contains e.born).toList = es'.toList.filter fun e => !seen.contains e.born := by simp
          split at h
          · rename_i hf
            cases h
            rw [hf] at e4
            have e6 : (es'.filter fun e => !seen.toArray.contains e.born) = #[] := by
              apply Array.ext'
              rw [e5]
              cases he : es'.toList.filter fun e => !seen.contains e.born with
              | nil => rfl
              | cons a l => rw [he] at e4; cases e4
            refine Goes.quiet r (v' := .tuple #[.bool false]) ?_ (.tuple (.cons (.bool _) .nil))
            simp only [Instr.next, hgo, Nat.add_zero, Sem.run_bind, hget, Result.andThen_ok, hgetm, e1, Bool.false_eq_true, if_false, e6]
            simp [Question.forced]
          · rename_i e hf
            cases hb : decide (e.born < since) with
            | false => rw [hb] at h; cases h
            | true =>
              rw [hb] at h
              simp only [cond_true] at h
              cases h
              rw [hf] at e4
              obtain ⟨e', he', hk, hv, hbn⟩ : ∃ e', es'.toList.filter (fun e => !seen.contains e.born) = [e'] ∧ VRel γ e.key e'.key ∧ VRel γ e.val e'.val ∧ e.born = e'.born := by
                cases he : es'.toList.filter fun e => !seen.contains e.born with
                | nil => rw [he] at e4; cases e4
                | cons a l =>
                  rw [he] at e4
                  cases e4 with
                  | cons hk hv hb hl => cases hl; exact ⟨a, rfl, hk, hv, hb⟩
              have e6 : (es'.filter fun e => !seen.toArray.contains e.born) = #[e'] := by
                apply Array.ext'
                rw [e5, he']
              obtain ⟨w', q1, q2, q3, q4⟩ := r.setObj (P := P) (b' := .mapIter (some gm.b) since (seen.toArray.push e'.born) clock) hx ho rfl rfl h1 (fun _ _ _ h => by cases h) (o' := .miter (some m) since (seen ++ [e.born]) clock)
                ⟨hgo, some gm.b, by simp [hbn], .inr ⟨m, gm, rfl, hm, rfl⟩⟩
              refine ⟨γ, .tuple #[.bool true, e'.key, e'.val], w', ?_, .tuple (.cons (.bool _) (.cons hk (.cons hv .nil))), q2, q3.x, q4⟩
              have hlt : e'.born < since := by rw [← hbn]; exact of_decide_eq_true hb
              simp only [Instr.next, hgo, Nat.add_zero, Sem.run_bind, hget, Result.andThen_ok, hgetm, e1, Bool.false_eq_true, if_false, e6]
              have hle : ¬ since ≤ e'.born := by omega
              have q1' : (Go.setObj g.b (.mapIter (some gm.b) since (seen ++ [e'.born]).toArray clock)).run P w = .ok () w' := by simpa using q1
              simp [hlt, hle, Question.forced, q1']
          · cases h
      · cases h
    · cases h
  · cases h
end
end
end Go.AM

/- The abstract machine, part 15: bytes as a string without a copy; pointers as unsafe ones. -/
namespace Go.AM
open Go Go.RowKit
noncomputable section

section
variable {γ : Gam} {B : Nat} {H : AHeap} {w : World} {C : Cx} {P : Program}

def asU8 : List Value → Option (List UInt8)
  | [] => some []
  | .int .u8 (.ofNat m) :: l => bif Nat.blt m 256 then (match asU8 l with
    | some r => some (UInt8.ofNat m :: r)
    | none => none) else none
  | _ => none
theorem asU8_spec : ∀ {l l' : List Value} {bs : List UInt8}, VsRel γ l l' → asU8 l = some bs → l' = bs.map fun b => Value.int .u8 b.toNat
  | [], l', bs, hr, h => by cases hr; cases h; rfl
  | v :: l, l', bs, hr, h => by
    cases hr with
    | cons hv hl =>
      unfold asU8 at h
      split at h
      · cases ‹_ :: _ = []›
      · rename_i m l0 heq
        cases heq
        cases hb : Nat.blt m 256 with
        | false => rw [hb] at h; cases h
        | true =>
          rw [hb] at h
          simp only [cond_true] at h
          rw [Nat.blt_eq] at hb
          split at h
          · rename_i r hr
            cases h
            cases hv
            rw [asU8_spec hl hr]
            simp [Nat.mod_eq_of_lt hb]
          · cases h
      · cases h

theorem liesAt_bytes' {e : TypeId} (hc : P.cellsOf e = 1) (count off n : Nat) (hn : off + n ≤ count) : liesAt P P.depth e count off e n = true := by
  have hd : P.depth = (2 * (P.types.size + Made.depth) + 1) + 1 := rfl
  rw [hd]
  simp only [liesAt, Bool.or_eq_true]
  left
  rw [hd]
  simp [rowAt, hc, hn, sameLayout, Nat.mod_one]

def aunsafeString (C : Cx) (H : AHeap) (pt : TypeId) (p n : Value) : Option (Value × AHeap) := match C.und pt, p, asN n with
  | some (.pointer _), .pointer _, some 0 => some (.string .empty, H)
  | some (.pointer e), .pointer (some ⟨x, off, none⟩), some (n + 1) => (match H.get x, C.size e with
    | some (.cells c e' wr), some 1 => bif e'.beq e && Nat.blt 0 wr && Nat.ble (n + 1) 9223372036854775807 then (match acells H x off (n + 1) with
      | some l => (match asU8 l with
        | some bs => some (.string ⟨bs.toArray⟩, H.put x (.cells c e' 0))
        | none => none)
      | none => none) else none
    | _, _ => none)
  | _, _, _ => none

theorem freeze_heap (w : World) (b o n : Nat) {cur : Array Value} {e : TypeId} {fz : Nat × Nat} (hn : n ≠ 0) (h : w.heap[b]? = some (.cells cur e fz)) :
    (∃ fz', (w.freeze ⟨b, o, none⟩ n).heap[b]? = some (.cells cur e fz')) ∧ (∀ k, k ≠ b → (w.freeze ⟨b, o, none⟩ n).heap[k]? = w.heap[k]?) ∧ (w.freeze ⟨b, o, none⟩ n).heap.size = w.heap.size ∧
      (w.freeze ⟨b, o, none⟩ n).os = w.os ∧ (w.freeze ⟨b, o, none⟩ n).tape = w.tape ∧ (w.freeze ⟨b, o, none⟩ n).output = w.output := by
  unfold World.freeze
  simp only [hn, if_false]
  refine ⟨?_, fun k hk => ?_, ?_, trivial, trivial, trivial⟩
  · simp only [Array.getElem?_modify, if_true, h, Option.map_some]
    exact ⟨_, rfl⟩
  · simp only [Array.getElem?_modify]; rw [if_neg (by omega)]
  · simp

theorem aunsafeString_sound (hF : C.Fits P) (r : Rel γ B H w) {nid : Nat} {pt it ty : TypeId} {p p' n n' : Value} (hp : VRel γ p p') (hn : VRel γ n n') {xr : Value × AHeap} (h : aunsafeString C H pt p n = some xr) :
    Goes nid γ B H w xr.1 xr.2 ((Builtin.unsafeString_ #[pt, it] ty #[p', n']).run P w) := by
  have hmax : IntKind.i64.max = 9223372036854775807 := rfl
  unfold aunsafeString at h
  split at h
  · rename_i e a hu hN
    obtain ⟨k, rfl⟩ := asN_sound hn hN
    cases h
    refine Goes.quiet r (v' := .string .empty) ?_ (.string _)
    cases hp with
    | ptrNil =>
      have hdef : Builtin.unsafeString_ #[pt, it] ty #[.pointer none, .int k ((0 : Nat) : Int)] =
          (do
            let n ← asInt (.int k ((0 : Nat) : Int))
            if n < 0 then runtimePanic (.error "unsafe.String: len out of range")
            if n > IntKind.i64.max then unsupported (.unsafePointer "String: a length above the largest int")
            if n = 0 then pure (.string .empty)
            else runtimePanic (.error "unsafe.String: ptr is nil and len is not zero")) := rfl
      rw [hdef]
      simp [asInt, asIntOf, hmax]
    | @ptr _ off g hx =>
      have hdef : Builtin.unsafeString_ #[pt, it] ty #[.pointer (some ⟨g.b, g.o + off, none⟩), .int k ((0 : Nat) : Int)] =
          (do
            let n ← asInt (.int k ((0 : Nat) : Int))
            if n < 0 then runtimePanic (.error "unsafe.String: len out of range")
            if n > IntKind.i64.max then unsupported (.unsafePointer "String: a length above the largest int")
            if n = 0 then pure (.string .empty)
            else if ← variablesAt ⟨g.b, g.o + off, none⟩ (← elemOf pt) n.toNat then do
              let s ← loadBytes ⟨g.b, g.o + off, none⟩ .empty n.toNat
              freeze ⟨g.b, g.o + off, none⟩ n.toNat
              pure (.string s)
            else unsupported (.unsafePointer "String: not so many bytes at ptr")) := rfl
      rw [hdef]
      simp [asInt, asIntOf, hmax]
  · rename_i e x off m hu hN
    obtain ⟨k, rfl⟩ := asN_sound hn hN
    split at h
    · rename_i c e' wr ho hs
      cases hc : (e'.beq e && Nat.blt 0 wr && Nat.ble (m + 1) 9223372036854775807) with
      | false => rw [hc] at h; cases h
      | true =>
        rw [hc] at h
        simp only [cond_true] at h
        simp only [Bool.and_eq_true, Nat.blt_eq, Nat.ble_eq] at hc
        obtain ⟨⟨c1, c2⟩, c3⟩ := hc
        have c1 := Nat.eq_of_beq_eq_true c1
        subst c1
        split at h
        · rename_i l hl
          split at h
          · rename_i bs hbs
            cases h
            cases hp with
            | @ptr _ _ g hx =>
              obtain ⟨l1, l', l2, l3⟩ := acells_spec r hx hl
              have e1 := asU8_spec l2 hbs
              subst e1
              have hlen : bs.length = m + 1 := by have := l2.length; simp at this; omega
              obtain ⟨cur, fz, b1, b2, b3, b4, b5, b6⟩ := r.cells hx ho c2
              have hcell : ∀ (j : Nat) (x : UInt8), bs[j]? = some x → w.cell? ((⟨g.b, g.o + off, none⟩ : Addr).add j) = some (.int .u8 x.toNat) := fun j x hj => l3 j _ (by simp [hj])
              have hlb := Go.Lib.run_loadBytes (P := P) w bs ⟨g.b, g.o + off, none⟩ .empty hcell
              have hle : g.o + off + (m + 1) ≤ cur.size := by
                have h1 := hcell m bs[m] (by simp)
                rw [add_lit', cell_at b1] at h1
                have := (Array.getElem?_eq_some_iff.1 h1).1
                omega
              have hc1 : P.cellsOf e' = 1 := by
                obtain ⟨i, hi, hi2⟩ := info_of_size hF hs
                simp [Program.cellsOf, hi, hi2]
              have hsh : w.shape? g.b = some (e', cur.size) := by simp [World.shape?, b1]
              have hlies := liesAt_bytes' (P := P) hc1 (cur.size / P.cellsOf e') (g.o + off) (m + 1) (by rw [hc1]; simpa using hle)
              obtain ⟨⟨fz', f1⟩, f2, f3, f4, f5, f6⟩ := freeze_heap w g.b (g.o + off) (m + 1) (by omega) b1
              refine ⟨γ, .string ⟨bs.toArray⟩, w.freeze ⟨g.b, g.o + off, none⟩ (m + 1), ?_, .string _, ?_, (Ext.upd hx _).x, ?_⟩
              · have h63 : ¬ (9223372036854775807 : Int) < ((m + 1 : Nat) : Int) := by omega
                have hneg : ¬ ((m + 1 : Nat) : Int) < 0 := by omega
                have hz : ¬ ((m + 1 : Nat) : Int) = 0 := by omega
                rw [hlen] at hlb
                have hdef : Builtin.unsafeString_ #[pt, it] ty #[.pointer (some ⟨g.b, g.o + off, none⟩), .int k ((m + 1 : Nat) : Int)] =
                    (do
                      let n ← asInt (.int k ((m + 1 : Nat) : Int))
                      if n < 0 then runtimePanic (.error "unsafe.String: len out of range")
                      if n > IntKind.i64.max then unsupported (.unsafePointer "String: a length above the largest int")
                      if n = 0 then pure (.string .empty)
                      else if ← variablesAt ⟨g.b, g.o + off, none⟩ (← elemOf pt) n.toNat then do
                        let s ← loadBytes ⟨g.b, g.o + off, none⟩ .empty n.toNat
                        freeze ⟨g.b, g.o + off, none⟩ n.toNat
                        pure (.string s)
                      else unsupported (.unsafePointer "String: not so many bytes at ptr")) := rfl
                rw [hdef]
                simp only [asInt, asIntOf, Sem.run_bind, Sem.run_pure, Result.andThen_ok, hmax, gt_iff_lt, h63, hneg, hz, if_false, Int.toNat_natCast, variablesAt, run_program, run_shape, hsh, elemOf, run_und hF hu, hlies, if_true, hlb, run_freeze]
                simp
              · exact r.upd hx ho rfl (by simpa [AObj.own] using c2) f3 f2 ⟨cur, fz', .inl f1, fun h => by omega, fun h => by omega, b4, b5, b6⟩
              · refine ⟨f4, f5, f6, Nat.le_of_eq f3.symm, fun k hk => f2 k ?_⟩
                have := r.own x g _ hx ho (by simpa [AObj.own] using c2)
                omega
          · cases h
        · cases h
    · cases h
  · cases h

def aunsafeSliceData : Value → Option Value
  | .slice none 0 0 => some (.pointer none)
  | .slice (some ⟨x, off, none⟩) _ cc => bif Nat.blt (ccKind cc) 2 && Nat.blt 0 (ccK cc) then some (.pointer (some ⟨x, off, none⟩)) else none
  | _ => none
theorem aunsafeSliceData_sound {ts : Array TypeId} {ty : TypeId} {x x' v : Value} (hx : VRel γ x x') (h : aunsafeSliceData x = some v) :
    ∃ v', (Builtin.unsafeSliceData_ ts ty #[x']).run P w = .ok v' w ∧ VRel γ v v' := by
  unfold aunsafeSliceData at h
  split at h
  · cases h; cases hx; exact ⟨.pointer none, rfl, .ptrNil⟩
  · rename_i y off n cc
    cases hc : (Nat.blt (ccKind cc) 2 && Nat.blt 0 (ccK cc)) with
    | false => rw [hc] at h; cases h
    | true =>
      rw [hc] at h
      cases h
      simp only [Bool.and_eq_true, Nat.blt_eq] at hc
      cases hx with
      | @sliceE _ _ _ es k g hx p1 p2 pl pk =>
        rw [ccK_mk p2 (by omega)] at hc
        exact ⟨_, Go.Lib.run_unsafeSliceData_row w ts ty _ n k (by omega), .ptr hx⟩
      | @sliceI _ _ _ es k g hx p1 p2 pl pk =>
        rw [ccK_mk p2 (by omega)] at hc
        have : k ≤ (g.n - off) / es := by rw [Nat.le_div_iff_mul_le p1]; omega
        exact ⟨_, Go.Lib.run_unsafeSliceData_row w ts ty _ n _ (by omega), .ptr hx⟩
      | sliceT hx p1 p2 pk => rw [ccKind_mk p2 (by omega)] at hc; omega
  · cases h

/-! ### Pointers as unsafe ones -/
def aconvP (C : Cx) (H : AHeap) (src dst : TypeId) (v : Value) : Option Value := match C.und src, C.und dst, v with
  | some (.pointer t), some .unsafePointer, .pointer (some ⟨x, off, none⟩) => (match C.size t, H.get x with
    | some (_ + 1), some (.cells c _ _) => bif Nat.blt off c.length then some (.pointer (some ⟨x, off, none⟩)) else none
    | _, _ => none)
  | some .unsafePointer, some (.pointer u), .pointer (some ⟨x, 0, none⟩) => (match C.size u, H.get x with
    | some (n + 1), some (.cells c e 2) => bif e.beq u && Nat.ble (n + 1) c.length then some (.pointer (some ⟨x, 0, none⟩)) else none
    | _, _ => none)
  | _, _, _ => none
theorem aconvP_sound (hF : C.Fits P) (r : Rel γ B H w) {src dst : TypeId} {x x' v : Value} (hx : VRel γ x x') (h : aconvP C H src dst x = some v) :
    ∃ v', (convert src dst x').run P w = .ok v' w ∧ VRel γ v v' := by
  unfold aconvP at h
  split at h
  · rename_i t y off hu1 hu2
    split at h
    · rename_i n c e wr hs ho
      cases hb : Nat.blt off c.length with
      | false => rw [hb] at h; cases h
      | true =>
        rw [hb] at h
        cases h
        rw [Nat.blt_eq] at hb
        cases hx with
        | @ptr _ _ g hx =>
          obtain ⟨cur, fz, e0, b1, b2, b3, b4, b5, b6⟩ := r.cells0 hx ho
          have hlt : g.o + off < cur.size := by omega
          have hce : w.cell? ⟨g.b, g.o + off, none⟩ = some cur[g.o + off] := by rw [cell_at b1]; simp
          obtain ⟨i, hi, hi2⟩ := info_of_size hF hs
          exact ⟨_, run_convert_to_unsafe (t := t) (by have := hu1; rwa [hF.und] at this) (by have := hu2; rwa [hF.und] at this) (by simp [hi, hi2]) hce, .ptr hx⟩
    · cases h
  · rename_i u y hu1 hu2
    split at h
    · rename_i n c e hs ho
      cases hb : (e.beq u && Nat.ble (n + 1) c.length) with
      | false => rw [hb] at h; cases h
      | true =>
        rw [hb] at h
        cases h
        simp only [Bool.and_eq_true, Nat.ble_eq] at hb
        have e1 := Nat.eq_of_beq_eq_true hb.1
        subst e1
        cases hx with
        | @ptr _ _ g hx =>
          obtain ⟨cur, fz, b1, b2, b3, b4, b5, b6⟩ := r.cells hx ho (by omega)
          obtain ⟨i, hi, hi2⟩ := info_of_size hF hs
          have hc1 : P.cellsOf e = n + 1 := by simp [Program.cellsOf, hi, hi2]
          have hd : P.depth = (2 * (P.types.size + Made.depth) + 1) + 1 := rfl
          have hcount : 1 ≤ cur.size / (n + 1) := by rw [Nat.le_div_iff_mul_le (by omega)]; omega
          have hlies : liesAt P P.depth e (cur.size / P.cellsOf e) 0 e 1 = true := by
            rw [hd]
            simp only [liesAt, Bool.or_eq_true]
            left
            rw [hd]
            simp [rowAt, hc1, sameLayout, hcount]
          refine ⟨.pointer (some ⟨g.b, g.o + 0, none⟩), ?_, .ptr hx⟩
          have hgo := (b3 rfl).2
          simp [convert, run_und hF hu1, run_und hF hu2, Conv.unsafePointer, Conv.seenAt, viewAt, World.shape?, b1, run_size hF hs, variablesAt, hgo, hlies]
    · cases h
  · cases h
end
end
end Go.AM

/- The abstract machine, part 16: one operation; a region; a function. What is run. -/
namespace Go.AM
open Go Go.RowKit
noncomputable section

structure Cy extends Cx where
  glob : Nat → Bool
  mkNoZero : Nat
  mkElem : TypeId
  noEsc : Nat

def aeval (C : Cy) (T : PT Value) : Operand → Option Value
  | .tmp t => (match T.get t with
    | some v => some v
    | none => some unk)
  | .const v => bif gnd v then some v else none
  | .global g => bif C.glob g then some (.pointer (some ⟨g, 0, none⟩)) else none
  | .func f => some (.func (.func f) ⟨[]⟩ ⟨[]⟩)
def aevals (C : Cy) (T : PT Value) : List Operand → Option (List Value)
  | [] => some []
  | x :: l => (match aeval C T x, aevals C T l with
    | some v, some r => some (v :: r)
    | _, _ => none)
def aevalP (C : Cy) (T : PT Value) : List (Nat × Operand) → Option (List (Nat × Value))
  | [] => some []
  | (i, x) :: l => (match aeval C T x, aevalP C T l with
    | some v, some r => some ((i, v) :: r)
    | _, _ => none)
def aevalO (C : Cy) (T : PT Value) : Option Operand → Option (Option Value)
  | none => some none
  | some x => (match aeval C T x with
    | some v => some (some v)
    | none => none)

inductive Out where
  | val (v : Value) (H : AHeap)
  | enter (f : FuncId) (args : List Value)
  | round (l : Nat) (args : List Value)
  | defr (f : FuncId) (args : List Value)
  | recov

def oval (H : AHeap) : Option Value → Option Out
  | some v => some (.val v H)
  | none => none
def ovalH : Option (Value × AHeap) → Option Out
  | some (v, H) => some (.val v H)
  | none => none
def oskip : Option AHeap → Option Out
  | some H => some (.val unk H)
  | none => none

def anilCheck : Value → Option Value
  | .pointer (some a) => some (.pointer (some a))
  | .func (.func f) a c => some (.func (.func f) a c)
  | .func (.yield f) a c => some (.func (.yield f) a c)
  | .iface t v => some (.iface t v)
  | _ => none

/-- A function is called. -/
def acall (C : Cy) (P : Program) (H : AHeap) (nid : Nat) (f : FuncId) (args : List Value) : Option Out := match C.func f with
  | some fn => (match fn.body with
    | some _ => some (.enter f args)
    | none => bif f.beq C.noEsc then (match args with
        | [v] => some (.val v H)
        | _ => none)
      else bif f.beq C.mkNoZero then (match args with
        | [.int .i64 (.ofNat n)] => bif Nat.ble n 281474976710656 then some (.val (.slice (some ⟨nid, 0, none⟩) n (mkcc 1 1 n)) (H.put nid (.cells (List.replicate n unk) C.mkElem 2))) else none
        | _ => none)
      else bif args.all gnd then (match prun P (callFunc f args.toArray) with
        | some (.value v) => bif gnd v then some (.val v H) else none
        | _ => none) else none)
  | none => none
def amethod (C : Cy) (P : Program) (H : AHeap) (nid : Nat) (recv : Value) (name : String) (args : List Value) : Option Out := match recv with
  | .iface t v => (match C.info t, C.und t with
    | some i, some d => (match i.methods.find? (·.name == name) with
      | some m => (match m.path.isEmpty, m.func, d with
        | true, some (f, true), .pointer _ => acall C P H nid f (v :: args)
        | true, some (_, false), .pointer _ => none
        | true, some (f, false), _ => acall C P H nid f (v :: args)
        | _, _, _ => none)
      | none => none)
    | _, _ => none)
  | _ => none
def acallV (C : Cy) (P : Program) (H : AHeap) (nid : Nat) (fv : Value) (args : List Value) : Option Out := match fv with
  | .func (.func f) ⟨first⟩ ⟨cap⟩ => acall C P H nid f (first ++ args ++ cap)
  | .func (.yield l) ⟨first⟩ _ => some (.round l (first ++ args))
  | .func (.method name) ⟨first⟩ _ => (match first ++ args with
    | recv :: rest => amethod C P H nid recv name rest
    | [] => none)
  | _ => none
def abuiltin (C : Cy) (P : Program) (H : AHeap) (nid : Nat) (b : Builtin) (ts : List TypeId) (ty : TypeId) (args : List Value) : Option Out := match b, ts, args with
  | .append, [t, t2], [s, x] => ovalH (aappend C.toCx H nid t t2 s x)
  | .cap, [t], [x] => oval H (acap C.toCx t x)
  | .len, [t], [x] => oval H (alen C.toCx H t x)
  | .copy, [t, _], [d, s] => ovalH (acopy C.toCx H t d s)
  | .delete, [t, _], [m, k] => oskip (adelete C.toCx P H t m k)
  | .min, ts, args => bif args.all gnd then oval H (gprun P (Builtin.min_ ts.toArray ty args.toArray)) else none
  | .max, ts, args => bif args.all gnd then oval H (gprun P (Builtin.max_ ts.toArray ty args.toArray)) else none
  | .unsafeString, [pt, _], [p, n] => ovalH (aunsafeString C.toCx H pt p n)
  | .unsafeSliceData, _, [x] => oval H (aunsafeSliceData x)
  | .recover, _, _ => some .recov
  | _, _, _ => none

def aop (C : Cy) (P : Program) (T : PT Value) (o : Oper) (H : AHeap) (nid : Nat) : Option Out := match o.op with
  | .move x => oval H (aeval C T x)
  | .assign x => oval H (aeval C T x)
  | .pick c a b => (match aeval C T c with
    | some (.bool true) => oval H (aeval C T a)
    | some (.bool false) => oval H (aeval C T b)
    | _ => none)
  | .alloc e => ovalH (aallocV C.toCx H nid e)
  | .box e x => (match aeval C T x with
    | some v => ovalH (some (abox H nid e v))
    | none => none)
  | .build t ps => (match aevalP C T ps.toList with
    | some ps => oval H (abuild C.toCx t ps)
    | none => none)
  | .buildSlice t len ps => (match aevalP C T ps.toList with
    | some ps => ovalH (abuildSlice C.toCx H nid t len ps)
    | none => none)
  | .load t a => (match aeval C T a with
    | some a => oval H (aload C.toCx H t a)
    | none => none)
  | .store t a x => (match aeval C T a, aeval C T x with
    | some a, some x => oskip (astore C.toCx H t a x)
    | _, _ => none)
  | .nilCheck x => (match aeval C T x with
    | some v => oval H (anilCheck v)
    | none => none)
  | .binOp op t x y _ => (match aeval C T x, aeval C T y with
    | some a, some b => oval H (abin C.toCx P H op t x y a b)
    | _, _ => none)
  | .unOp op _ x => (match aeval C T x with
    | some v => bif gnd v then oval H (gprun P (Op.unary op v)) else none
    | none => none)
  | .convert src dst x => (match aeval C T x with
    | some v => (match aconvP C.toCx H src dst v with
      | some u => some (.val u H)
      | none => ovalH (aconvert C.toCx P H nid src dst v))
    | none => none)
  | .makeInterface t x => (match aeval C T x, C.und t with
    | some _, some (.interface _) => none
    | some v, some _ => some (.val (.iface t v) H)
    | _, _ => none)
  | .makeFunc fn first cap => (match aevals C T first.toList, aevals C T cap.toList with
    | some a, some c => (match fn with
      | .yield _ => none
      | fn => some (.val (.func fn ⟨a⟩ ⟨c⟩) H))
    | _, _ => none)
  | .makeMap _ none => some (.val (.map (some nid)) (H.put nid (.map [] 0)))
  | .makeSlice t l c => (match aeval C T l, aeval C T c with
    | some l, some c => ovalH (amakeSlice C.toCx H nid t l c)
    | _, _ => none)
  | .slice t x lo hi mx => (match aeval C T x, aevalO C T lo, aevalO C T hi, aevalO C T mx with
    | some x, some lo, some hi, some mx => oval H (asliceAt C.toCx P H t x lo hi mx)
    | _, _, _, _ => none)
  | .fieldAddr s x f => (match aeval C T x with
    | some v => oval H (afieldAddr C.toCx s f v)
    | none => none)
  | .field s x f => (match aeval C T x with
    | some v => oval H (afield C.toCx s f v)
    | none => none)
  | .indexAddr t x i => (match aeval C T x, aeval C T i with
    | some x, some i => oval H (aindexAddr C.toCx t x i)
    | _, _ => none)
  | .index t x i => (match aeval C T x, aeval C T i with
    | some x, some i => oval H (aindex C.toCx P t x i)
    | _, _ => none)
  | .lookup t x i ok => (match aeval C T x, aeval C T i with
    | some x, some i => oval H (alookup C.toCx P H t x i ok)
    | _, _ => none)
  | .mapUpdate t m k x => (match aeval C T m, aeval C T k, aeval C T x with
    | some m, some k, some x => oskip (amapUpdate C.toCx P H t m k x)
    | _, _, _ => none)
  | .insert t m k x => (match aeval C T m, aeval C T k, aeval C T x with
    | some m, some k, some x => oskip (amapUpdate C.toCx P H t m k x)
    | _, _, _ => none)
  | .range t x => (match aeval C T x with
    | some x => ovalH (arange C.toCx H nid t x)
    | none => none)
  | .next it s => (match aeval C T it with
    | some it => ovalH (anext H s it)
    | none => none)
  | .typeAssert x _ t ok => (match aeval C T x with
    | some x => oval H (aassert C.toCx t ok x)
    | none => none)
  | .extract t i => (match aeval C T t with
    | some t => oval H (aextract i t)
    | none => none)
  | .call c => (match aevals C T c.args.toList with
    | some args => (match c.callee with
      | .builtin b => abuiltin C P H nid b c.argTypes.toList o.type args
      | .invoke r name => (match aeval C T r with
        | some r => amethod C P H nid r name args
        | none => none)
      | .value f => (match aeval C T f with
        | some fv => acallV C P H nid fv args
        | none => none))
    | none => none)
  | .defer c => (match aevals C T c.args.toList, c.callee with
    | some args, .value f => (match aeval C T f with
      | some (.func (.func g) ⟨first⟩ ⟨cap⟩) => some (.defr g (first ++ args ++ cap))
      | _ => none)
    | _, _ => none)
  | _ => none

/-! ### Regions whose order is open -/
inductive Cls where
  | quiet | new | eff
def cls (C : Cy) (o : Oper) : Cls := match o.op with
  | .move _ | .assign _ | .pick .. | .build .. | .load .. | .nilCheck _ | .binOp .. | .unOp .. | .makeInterface .. | .makeFunc .. | .slice .. | .fieldAddr .. | .field .. | .indexAddr .. | .index .. | .lookup .. | .typeAssert .. | .extract .. => .quiet
  | .alloc _ | .box .. | .buildSlice .. | .makeMap .. | .makeSlice .. => .new
  | .convert src dst _ => (match C.und src, C.und dst with
    | some (.slice _), _ => .eff
    | some .string, some (.slice _) => .new
    | _, _ => .quiet)
  | .call c => (match c.callee with
    | .builtin .len | .builtin .cap | .builtin .min | .builtin .max | .builtin .unsafeSliceData => .quiet
    | _ => .eff)
  | _ => .eff

def predMask (o : Oper) : Nat := o.after.toList.foldl (fun m e => bif Region.binds .any e then Nat.lor m (2 ^ e.on) else m) 0
/-- The first operation that may come up, of those not done: (quiet or new; any). -/
def firstReady (C : Cy) (any : Bool) (done : Nat) : List (Oper × Nat) → Option Nat
  | [] => none
  | (o, i) :: l => bif !Nat.testBit done i && (Nat.land (predMask o) done).beq (predMask o) && (any || (match cls C o with | .eff => false | _ => true)) then some i else firstReady C any done l
def greedy (C : Cy) (ops : List (Oper × Nat)) : Nat → Nat → List Nat
  | 0, _ => []
  | n + 1, done => (match firstReady C false done ops with
    | some i => i :: greedy C ops n (Nat.lor done (2 ^ i))
    | none => (match firstReady C true done ops with
      | some i => i :: greedy C ops n (Nat.lor done (2 ^ i))
      | none => []))
end
end Go.AM

/- The abstract machine, part 17: what is run. -/
namespace Go.AM
open Go Go.RowKit
noncomputable section

inductive Dfr where
  | mark (x : Nat)
  | call (f : FuncId) (args : List Value)

/-- An activation: its temporaries, how many, its deferred calls, the round that it is, if it is one. -/
structure Fr where
  T : PT Value
  n : Nat
  ds : List Dfr
  rd : Option Nat

inductive Ex where
  | normal
  | exit (id : Nat)
  | ret

inductive Task where
  | code (c : Code) (fr : Fr)
  | ops (ops : Array Oper) (l : List Nat) (fr : Fr)
  | dops (ops : Array Oper) (bm : List Nat) (base : Nat) (l : List Nat) (seen : List Nat) (fr : Fr)
  | call (f : FuncId) (args : List Value)
  | leave (ds : List Dfr) (fn : Func) (T : PT Value)
  | round (x : Nat) (args : List Value)
  | dcode (c : Code) (fr : Fr)
  | sops (ops : Array Oper) (l : List Nat) (fr : Fr)

inductive Res where
  | code (e : Ex) (fr : Fr) (H : AHeap)
  | val (v : Value) (H : AHeap)

/-- A value, its number evaluated. -/
def forceV {β : Type} (v : Value) (k : Value → β) : β := match v with
  | .int q (.ofNat n) => (match n with
    | 0 => k (.int q (.ofNat 0))
    | m + 1 => k (.int q (.ofNat (m + 1))))
  | .bool true => k (.bool true)
  | .bool false => k (.bool false)
  | v => k v
theorem forceV_eq {β : Type} (v : Value) (k : Value → β) : forceV v k = k v := by
  unfold forceV
  split
  · split <;> rfl
  · rfl
  · rfl
  · rfl

/-- A temporary is written. -/
def Fr.put (fr : Fr) (dst : Option Tmp) (v : Value) : Option Fr := match dst with
  | none => some fr
  | some d => bif Nat.blt d fr.n then forceV v (fun v => match fr.T.set d v with
    | .nil => some { fr with T := .nil }
    | .node a b c => some { fr with T := .node a b c }) else none

def wantedA (T : PT Value) (ops : Array Oper) (o : Oper) : Bool := match o.guard with
  | none => true
  | some (j, want) => (match ops[j]? with
    | some oj => (match oj.dst with
      | some d => (match T.get d with
        | some (.bool b) => b == want
        | _ => false)
      | none => false)
    | none => false)

mutual
def veq : Value → Value → Bool
  | .bool a, .bool b => a == b
  | .int k a, .int l b => k == l && a == b
  | .string a, .string b => a == b
  | .pointer none, .pointer none => true
  | .pointer (some ⟨a, o, none⟩), .pointer (some ⟨b, p, none⟩) => a.beq b && o.beq p
  | .slice none a b, .slice none c d => a.beq c && b.beq d
  | .slice (some ⟨a, o, none⟩) l c, .slice (some ⟨b, p, none⟩) m d => a.beq b && o.beq p && l.beq m && c.beq d
  | .map none, .map none => true
  | .map (some a), .map (some b) => a.beq b
  | .nilFunc, .nilFunc => true
  | .func (.func f) a c, .func (.func g) b d => f.beq g && veqA a b && veqA c d
  | .func (.yield f) a c, .func (.yield g) b d => f.beq g && veqA a b && veqA c d
  | .nilIface, .nilIface => true
  | .iface t v, .iface u x => t.beq u && veq v x
  | .agg a, .agg b => veqA a b
  | .tuple a, .tuple b => veqA a b
  | _, _ => false
def veqA : Array Value → Array Value → Bool
  | ⟨a⟩, ⟨b⟩ => veqL a b
def veqL : List Value → List Value → Bool
  | [], [] => true
  | v :: l, x :: m => veq v x && veqL l m
  | _, _ => false
end

/-! ### Checks on a region whose order is open -/
def hasBit (m k : Nat) : Bool := Nat.testBit m k
def maskOf : List Nat → Nat
  | [] => 0
  | i :: l => Nat.lor (2 ^ i) (maskOf l)
def subMask (a b : Nat) : Bool := (Nat.land a b).beq a
def nthD : List Nat → Nat → Nat
  | [], _ => 0
  | m :: _, 0 => m
  | _ :: l, k + 1 => nthD l k
/-- What lies before an operation, through however many others. -/
def beforeMask (acc : List Nat) : List Edge → Nat → Nat
  | [], m => m
  | e :: l, m => beforeMask acc l (bif Region.binds .any e then Nat.lor (Nat.lor m (2 ^ e.on)) (nthD acc e.on) else m)
def befs : List Oper → List Nat → List Nat
  | [], acc => acc
  | o :: l, acc => befs l (acc ++ [beforeMask acc o.after.toList 0])
/-- Every operation that writes this temporary is in the mask. -/
def writesIn (t : Tmp) (m : Nat) : List (Oper × Nat) → Bool
  | [] => true
  | (o, k) :: l => (match o.dst with
    | some d => bif Nat.beq d t then hasBit m k else true
    | none => true) && writesIn t m l
def looksOk (l : List (Oper × Nat)) (m : Nat) : List Tmp → Bool
  | [] => true
  | t :: ts => writesIn t m l && looksOk l m ts
/-- What an operation looks at is written before it, or not at all; nothing is written twice. -/
def regOk (ops : Array Oper) (bm : List Nat) (all : List (Oper × Nat)) : List (Oper × Nat) → Bool
  | [] => true
  | (o, i) :: l => looksOk all (nthD bm i) (o.looksAt ops) && (match o.dst with
    | some d => writesIn d (2 ^ i) all
    | none => true) && regOk ops bm all l
def freshOk (o : Oper) (sm i : Nat) : Bool := !hasBit sm i && subMask (predMask o) sm
/-- All that may come up has come up, but for one. -/
def closedOk (sm head : Nat) : List (Oper × Nat) → Bool
  | [] => true
  | (o, k) :: l => (hasBit sm k || Nat.beq k head || !subMask (predMask o) sm) && closedOk sm head l
def isEff (C : Cy) (o : Oper) : Bool := match cls C o with
  | .eff => true
  | _ => false
def effMask (C : Cy) (ops : Array Oper) (bm : List Nat) : List Nat → Nat
  | [] => 0
  | i :: l => (match ops[i]? with
    | some o => bif isEff C o then Nat.lor (Nat.lor (2 ^ i) (nthD bm i)) (effMask C ops bm l) else effMask C ops bm l
    | none => effMask C ops bm l)
def sameObj : Option AObj → Option AObj → Bool
  | none, none => true
  | some (.cells c e w), some (.cells c' e' w') => veqL c c' && Nat.beq e e' && Nat.beq w w'
  | some (.map [] k), some (.map [] k') => Nat.beq k k'
  | _, _ => false
/-- What came up, and need not have: does it still give what it gave? -/
def still (C : Cy) (P : Program) (ops : Array Oper) (base : Nat) (T : PT Value) (H : AHeap) (mask : Nat) : List Nat → Bool
  | [] => true
  | i :: l => (match ops[i]? with
    | some o => (bif hasBit mask i then true else
      (match o.dst with
      | some d => (bif wantedA T ops o then (match aop C P T o H (base + i) with
        | some (.val v H') => (match T.get d with
          | some u => veq v u
          | none => false) && sameObj (H'.get (base + i)) (H.get (base + i))
        | _ => false) else (match T.get d with
          | some u => isUnk u
          | none => true))
      | none => false)) && still C P ops base T H mask l
    | none => false)
def stageOk (C : Cy) (P : Program) (ops : Array Oper) (all : List (Oper × Nat)) (bm : List Nat) (base : Nat) (T : PT Value) (H : AHeap) (seen : List Nat) (head : Nat) : Bool :=
  closedOk (maskOf seen) head all && still C P ops base T H (effMask C ops bm seen) seen

def recovers : List Oper → Bool
  | [] => false
  | o :: l => (match o.op with
    | .call c => (match c.callee with
      | .builtin .recover => true
      | _ => recovers l)
    | _ => recovers l)
def resultsA (C : Cy) (H : AHeap) (T : PT Value) : List ResultVar → Option (List Value)
  | [] => some []
  | .tmp t :: l => (match resultsA C H T l with
    | some r => some ((match T.get t with
      | some v => v
      | none => unk) :: r)
    | none => none)
  | .cell a t :: l => (match T.get a with
    | some p => (match aload C.toCx H t p, resultsA C H T l with
      | some v, some r => some (v :: r)
      | _, _ => none)
    | none => none)
def enterT : Nat → List Value → PT Value → PT Value
  | _, [], T => T
  | i, v :: l, T => enterT (i + 1) l (T.set i v)
def setPs (n : Nat) : List Tmp → List Value → PT Value → Option (PT Value)
  | [], [], T => some T
  | t :: ts, v :: vs, T => bif Nat.blt t n then setPs n ts vs (T.set t v) else none
  | _, _, _ => none

def run (C : Cy) (P : Program) : Nat → Task → AHeap → Option Res
  | 0, _, _ => none
  | f + 1, t, H => match t with
    | .code c fr => (match c with
      | .skip => some (.code .normal fr H)
      | .label _ => some (.code .normal fr H)
      | .seq a b => (match run C P f (.code a fr) H with
        | some (.code .normal fr H) => run C P f (.code b fr) H
        | r => r)
      | .cond x a b => (match aeval C fr.T x with
        | some (.bool true) => run C P f (.code a fr) H
        | some (.bool false) => run C P f (.code b fr) H
        | _ => none)
      | .block id b => (match run C P f (.code b fr) H with
        | some (.code (.exit j) fr H) => bif Nat.beq j id then some (.code .normal fr H) else some (.code (.exit j) fr H)
        | r => r)
      | .loop b => (match run C P f (.code b fr) H with
        | some (.code .normal fr H) => run C P f (.code (.loop b) fr) H
        | r => r)
      | .exit id => some (.code (.exit id) fr H)
      | .ret => some (.code .ret fr H)
      | .region _ ops draw => bif draw then rebuild (befs ops.toList []) (fun bm => bif regOk ops bm ops.toList.zipIdx ops.toList.zipIdx then run C P f (.dops ops bm H.next (greedy C ops.toList.zipIdx ops.size 0) [] fr) ⟨H.next + ops.size, H.t⟩ else none) else run C P f (.ops ops (List.range ops.size) fr) H
      | .rangeFunc g ps assign body =>
        let dl := match fr.rd with
          | none => some (H.next, [Dfr.mark H.next], H.put H.next .defd)
          | some x => (match H.get x with
            | some (.loop _ _ _ _ _ _ _ d) => some (d, [], H)
            | _ => none)
        (match dl, aeval C fr.T g with
        | some (d, mk, H), some gv =>
          let x := H.next
          let H := H.put x (.loop .ready none fr.T fr.n ps assign body d)
          (match acallV C P H H.next gv [.func (.yield x) ⟨[]⟩ ⟨[]⟩] with
          | some (.enter g args) => (match run C P f (.call g args) H with
            | some (.val _ H) => (match H.get x with
              | some (.loop st pend tmps nt ps as bd d) => (match st with
                | .busy => none
                | _ => (match pend with
                  | none => some (.code .normal { fr with ds := mk ++ fr.ds } (H.put x (.loop .exhausted pend tmps nt ps as bd d)))
                  | some c => run C P f (.code c { fr with ds := mk ++ fr.ds }) (H.put x (.loop .exhausted pend tmps nt ps as bd d))))
              | _ => none)
            | _ => none)
          | _ => none)
        | _, _ => none)
      | _ => none)
    | .ops ops l fr => (match l with
      | [] => some (.code .normal fr H)
      | i :: l => (match ops[i]? with
        | some o => bif wantedA fr.T ops o then (match aop C P fr.T o H H.next with
            | some (.val v H) => (match fr.put o.dst v with
              | some fr => run C P f (.ops ops l fr) H
              | none => none)
            | some (.enter g args) => (match run C P f (.call g args) H with
              | some (.val v H) => (match fr.put o.dst v with
                | some fr => run C P f (.ops ops l fr) H
                | none => none)
              | _ => none)
            | some (.round x args) => (match run C P f (.round x args) H with
              | some (.val v H) => (match fr.put o.dst v with
                | some fr => run C P f (.ops ops l fr) H
                | none => none)
              | _ => none)
            | some (.defr g args) => (match fr.rd with
              | none => (match fr.put o.dst unk with
                | some fr => run C P f (.ops ops l { fr with ds := .call g args :: fr.ds }) H
                | none => none)
              | some _ => none)
            | _ => none)
          else (match fr.put o.dst unk with
            | some fr => run C P f (.ops ops l fr) H
            | none => none)
        | none => none))
    | .dops ops bm base l seen fr => (match l with
      | [] => bif seen.length.beq ops.size && stageOk C P ops ops.toList.zipIdx bm base fr.T H seen ops.size then some (.code .normal fr H) else none
      | i :: l => (match ops[i]? with
        | some o => bif freshOk o (maskOf seen) i then (bif isEff C o then
            (bif stageOk C P ops ops.toList.zipIdx bm base fr.T H seen i then (bif wantedA fr.T ops o then
                (match aop C P fr.T o H H.next with
                | some (.val v H) => (match fr.put o.dst v with
                  | some fr => run C P f (.dops ops bm base l (i :: seen) fr) H
                  | none => none)
                | some (.enter g args) => (match run C P f (.call g args) H with
                  | some (.val v H) => (match fr.put o.dst v with
                    | some fr => run C P f (.dops ops bm base l (i :: seen) fr) H
                    | none => none)
                  | _ => none)
                | some (.round x args) => (match run C P f (.round x args) H with
                  | some (.val v H) => (match fr.put o.dst v with
                    | some fr => run C P f (.dops ops bm base l (i :: seen) fr) H
                    | none => none)
                  | _ => none)
                | _ => none)
              else (match fr.put o.dst unk with
              | some fr => run C P f (.dops ops bm base l (i :: seen) fr) H
              | none => none)) else none)
            else (bif wantedA fr.T ops o then (match aop C P fr.T o H (base + i) with
              | some (.val v H) => (match fr.put o.dst v with
                | some fr => run C P f (.dops ops bm base l (i :: seen) fr) H
                | none => none)
              | _ => none)
            else (match fr.put o.dst unk with
            | some fr => run C P f (.dops ops bm base l (i :: seen) fr) H
            | none => none))) else none
        | none => none))
    | .call g args => (match C.func g with
      | some fn => (match fn.body with
        | some c => (match run C P f (.code c ⟨enterT 0 args .nil, Nat.max args.length fn.ntmps, [], none⟩) H with
          | some (.code .normal fr H) => run C P f (.leave fr.ds fn fr.T) H
          | some (.code .ret fr H) => run C P f (.leave fr.ds fn fr.T) H
          | _ => none)
        | none => none)
      | none => none)
    | .leave ds fn T => (match ds with
      | [] => (match resultsA C H T fn.results.toList with
        | some [v] => some (.val v H)
        | some vs => some (.val (.tuple ⟨vs⟩) H)
        | none => none)
      | .mark x :: ds => (match H.get x with
        | some .defd => run C P f (.leave ds fn T) (H.put x .dead)
        | _ => none)
      | .call g args :: ds => (match C.func g with
        | some gn => (match gn.body with
          | some c => (match run C P f (.dcode c ⟨enterT 0 args .nil, Nat.max args.length gn.ntmps, [], none⟩) H with
            | some (.code .normal ⟨Tg, _, [], _⟩ H) => (match resultsA C H Tg gn.results.toList with
              | some _ => run C P f (.leave ds fn T) H
              | none => none)
            | some (.code .ret ⟨Tg, _, [], _⟩ H) => (match resultsA C H Tg gn.results.toList with
              | some _ => run C P f (.leave ds fn T) H
              | none => none)
            | _ => none)
          | none => none)
        | none => none))
    | .dcode c fr => (match c with
      | .seq a b => (match run C P f (.dcode a fr) H with
        | some (.code .normal fr H) => run C P f (.dcode b fr) H
        | r => r)
      | .cond x a b => (match aeval C fr.T x with
        | some (.bool true) => run C P f (.dcode a fr) H
        | some (.bool false) => run C P f (.dcode b fr) H
        | _ => none)
      | .block id b => (match run C P f (.dcode b fr) H with
        | some (.code (.exit j) fr H) => bif Nat.beq j id then some (.code .normal fr H) else some (.code (.exit j) fr H)
        | r => r)
      | .region id ops false => bif recovers ops.toList then run C P f (.sops ops (List.range ops.size) fr) H else run C P f (.code (.region id ops false) fr) H
      | c => run C P f (.code c fr) H)
    | .sops ops l fr => (match l with
      | [] => some (.code .normal fr H)
      | i :: l => (match ops[i]? with
        | some o => bif wantedA fr.T ops o then (match aop C P fr.T o H H.next with
            | some (.val v H) => (match fr.put o.dst v with
              | some fr => run C P f (.sops ops l fr) H
              | none => none)
            | some .recov => (match fr.put o.dst .nilIface with
              | some fr => run C P f (.sops ops l fr) H
              | none => none)
            | _ => none)
          else (match fr.put o.dst unk with
            | some fr => run C P f (.sops ops l fr) H
            | none => none)
        | none => none))
    | .round x args => (match H.get x with
      | some (.loop .ready _ tmps nt ps as bd0 _) => (match setPs nt ps.toList args tmps with
        | some T => (match run C P f (.code as ⟨T, nt, [], some x⟩) H with
          | some (.code .normal fr H) => (match H.get x with
            | some (.loop .ready pend tmps nt ps as bd d) => (match run C P f (.code bd0 fr) (H.put x (.loop .busy pend tmps nt ps as bd d)) with
              | some (.code e _ H) => (match H.get x with
                | some (.loop _ _ tmps nt ps as bd d) => (match e with
                  | .normal => some (.val (.bool true) (H.put x (.loop .ready none tmps nt ps as bd d)))
                  | .ret => some (.val (.bool false) (H.put x (.loop .done (some .ret) tmps nt ps as bd d)))
                  | .exit id => some (.val (.bool false) (H.put x (.loop .done (some (.exit id)) tmps nt ps as bd d))))
                | _ => none)
              | _ => none)
            | _ => none)
          | _ => none)
        | none => none)
      | _ => none)
end
end Go.AM

/- The abstract machine, part 18: one operation is what it says. -/
namespace Go.AM
open Go Go.RowKit
noncomputable section

structure Cy.Fits (C : Cy) (P : Program) : Prop where
  x : C.toCx.Fits P
  plain : ∀ f fn, C.func f = some fn → (fn.name == "runtime.NumGoroutine") = false
  noEsc : ∀ v w, (callFunc C.noEsc #[v]).run P w = .ok (.value v) w
  mkNoZero : ∀ (n : Nat) w, n ≤ 281474976710656 → ∃ (cap : Nat) (cur : Array Value) (w2 : World), (callFunc C.mkNoZero #[.int .i64 (n : Int)]).run P w = .ok (.value (.slice (some ⟨w2.heap.size, 0, none⟩) n cap)) (w2.alloc (.cells cur C.mkElem)) ∧
    w2.heap = w.heap ∧ w2.os = w.os ∧ w2.tape = w.tape ∧ w2.output = w.output ∧ cur.size = cap ∧ n ≤ cap
  mixed : P.follows .mixedOrders = true

def Cy.GlobOk (C : Cy) (γ : Gam) : Prop := ∀ x, C.glob x = true → ∃ n, γ x = some ⟨x, 0, n⟩
theorem Cy.GlobOk.mono {C : Cy} {γ γ' : Gam} (h : C.GlobOk γ) (hle : γ.le γ') : C.GlobOk γ' := fun x hx => let ⟨n, hn⟩ := h x hx; ⟨n, hle _ _ hn⟩

section
variable {γ : Gam} {B : Nat} {H : AHeap} {w : World} {C : Cy} {P : Program}

/-- An operand's value, related to what the world has. -/
def ER (C : Cy) (γ : Gam) (T : PT Value) (ρ : Operand → Value) (x : Operand) : Prop := ∀ v, aeval C T x = some v → VRel γ v (ρ x)

theorem er_of_trel {T : PT Value} {n : Nat} {a : Act} (hG : C.GlobOk γ) (h : TRel γ T n a.tmps) (x : Operand) : ER C γ T a.eval x := by
  intro v hv
  cases x with
  | tmp t =>
    have := h.2 t
    simp only [aeval] at hv
    split at hv
    · rename_i u hu; cases hv; rw [hu] at this; simpa [Act.eval] using this
    · rename_i hu; cases hv; rw [hu] at this; simpa [Act.eval] using this
  | const u =>
    simp only [aeval] at hv
    cases hg : gnd u with
    | false => rw [hg] at hv; cases hv
    | true => rw [hg] at hv; cases hv; exact gnd_rel _ hg
  | global g =>
    simp only [aeval] at hv
    cases hg : C.glob g with
    | false => rw [hg] at hv; cases hv
    | true =>
      rw [hg] at hv
      cases hv
      obtain ⟨n, hn⟩ := hG g hg
      exact .ptr (g := ⟨g, 0, n⟩) hn
  | func f => simp only [aeval] at hv; cases hv; exact .func (.func f) .nil .nil

theorem ers {T : PT Value} {ρ : Operand → Value} : ∀ {l : List Operand} {vs : List Value}, (∀ x ∈ l, ER C γ T ρ x) → aevals C T l = some vs → VsRel γ vs (l.map ρ)
  | [], vs, _, h => by cases h; exact .nil
  | x :: l, vs, hx, h => by
    simp only [aevals] at h
    split at h
    · rename_i v r hv hr
      cases h
      exact .cons (hx x (.head _) v hv) (ers (fun y hy => hx y (.tail _ hy)) hr)
    · cases h
theorem erps {T : PT Value} {ρ : Operand → Value} : ∀ {l : List (Nat × Operand)} {vs : List (Nat × Value)}, (∀ x ∈ l, ER C γ T ρ x.2) → aevalP C T l = some vs → PsRel γ vs (l.map fun p => (p.1, ρ p.2))
  | [], vs, _, h => by cases h; exact .nil
  | (i, x) :: l, vs, hx, h => by
    simp only [aevalP] at h
    split at h
    · rename_i v r hv hr
      cases h
      exact .cons (hx (i, x) (.head _) v hv) (erps (fun y hy => hx y (.tail _ hy)) hr)
    · cases h
theorem ero {T : PT Value} {ρ : Operand → Value} {x : Option Operand} {v : Option Value} (hx : ∀ y, x = some y → ER C γ T ρ y) (h : aevalO C T x = some v) : OVRel γ v (x.map ρ) := by
  cases x with
  | none => cases h; exact .none
  | some x =>
    simp only [aevalO] at h
    split at h
    · rename_i u hu; cases h; exact .some (hx x rfl u hu)
    · cases h

/-- What an operation comes to. -/
def OpGoes (nid : Nat) (γ : Gam) (B : Nat) (H : AHeap) (w : World) (P : Program) (out : Out) (r : Result Next) : Prop := match out with
  | .val v H' => ∃ γ' v' w', (r = .ok (.value v') w' ∨ (r = .ok .skip w' ∧ v' = undef)) ∧ VRel γ' v v' ∧ Rel γ' B H' w' ∧ ExtX nid γ γ' H H' ∧ Below B w w'
  | .enter f args => ∃ args' : Array Value, r = .ok (.enter f args') w ∧ VsRel γ args args'.toList
  | .round l args => ∃ (g : G) (args' : Array Value), γ l = some g ∧ VsRel γ args args'.toList ∧ r = (Instr.yield g.b args').run P w
  | .defr f args => ∃ (d : Deferred) (cap args' : Array Value), r = .ok (.defer d) w ∧ VsRel γ args args'.toList ∧ d.target = .fn (.func f) cap ∧ args' = d.args ++ cap
  | .recov => r = .ok .recover w

theorem OpGoes.of_goes {nid : Nat} {v : Value} {H' : AHeap} {s : Sem Value} (h : Goes nid γ B H w v H' (s.run P w)) : OpGoes nid γ B H w P (.val v H') ((do pure (.value (← s)) : Sem Next).run P w) := by
  obtain ⟨γ', v', w', h1, h2⟩ := h
  exact ⟨γ', v', w', .inl (by simp [h1]), h2⟩
theorem OpGoes.of_quiet {nid : Nat} {v : Value} {s : Sem Value} (r : Rel γ B H w) (h : ∃ v', s.run P w = .ok v' w ∧ VRel γ v v') : OpGoes nid γ B H w P (.val v H) ((do pure (.value (← s)) : Sem Next).run P w) := by
  obtain ⟨v', h1, h2⟩ := h
  exact .of_goes (Goes.quiet r h1 h2)
theorem OpGoes.of_goesU {nid : Nat} {H' : AHeap} {s : Sem Unit} (h : GoesU γ B H w H' (s.run P w)) : OpGoes nid γ B H w P (.val unk H') ((do s; pure .skip : Sem Next).run P w) := by
  obtain ⟨w', h1, h2, h3, h4⟩ := h
  exact ⟨γ, undef, w', .inr ⟨by simp [h1], rfl⟩, .tuple .nil, h2, h3.x, h4⟩
theorem OpGoes.of_pure {nid : Nat} {v v' : Value} (r : Rel γ B H w) (h : VRel γ v v') : OpGoes nid γ B H w P (.val v H) ((pure (.value v') : Sem Next).run P w) :=
  ⟨γ, v', w, .inl rfl, h, r, (Ext.refl γ H).x, Below.refl B w⟩

theorem oval_some {v : Option Value} {out : Out} (h : oval H v = some out) : ∃ u, v = some u ∧ out = .val u H := by
  cases v with
  | none => cases h
  | some u => cases h; exact ⟨u, rfl, rfl⟩
theorem ovalH_some {v : Option (Value × AHeap)} {out : Out} (h : ovalH v = some out) : ∃ u, v = some u ∧ out = .val u.1 u.2 := by
  cases v with
  | none => cases h
  | some u => cases h; exact ⟨u, rfl, rfl⟩
theorem oskip_some {v : Option AHeap} {out : Out} (h : oskip v = some out) : ∃ u, v = some u ∧ out = .val unk u := by
  cases v with
  | none => cases h
  | some u => cases h; exact ⟨u, rfl, rfl⟩

theorem gndL_all : ∀ {l : List Value}, l.all gnd = true → gndL l = true
  | [], _ => rfl
  | v :: l, h => by simp only [List.all_cons, Bool.and_eq_true] at h; simp only [gndL, Bool.and_eq_true]; exact ⟨h.1, gndL_all h.2⟩
theorem args_eq {args : List Value} {args' : Array Value} (h : VsRel γ args args'.toList) (hg : args.all gnd = true) : args' = args.toArray := by
  have := gndL_eq h (gndL_all hg)
  rw [← this]

theorem acall_sound (hC : C.Fits P) (r : Rel γ B H w) {nid : Nat} (hn : γ nid = none) {f : FuncId} {args : List Value} {args' : Array Value} {out : Out} (ha : VsRel γ args args'.toList) (h : acall C P H nid f args = some out) :
    OpGoes nid γ B H w P out ((callFunc f args').run P w) := by
  unfold acall at h
  split at h
  · rename_i fn hfn
    have hP : P.funcs[f]? = some fn := by rw [← hC.x.func]; exact hfn
    have hpl := hC.plain f fn hfn
    split at h
    · rename_i c hb
      cases h
      refine ⟨args', ?_, ha⟩
      have hpl' : ¬ fn.name = "runtime.NumGoroutine" := by simpa using hpl
      simp [callFunc, hP, hpl', hb]
    · rename_i hb
      cases h1 : f.beq C.noEsc with
      | true =>
        rw [h1] at h
        simp only [cond_true] at h
        have := Nat.eq_of_beq_eq_true h1
        subst this
        split at h
        · rename_i v
          cases h
          obtain ⟨l⟩ := args'
          cases ha with
          | cons hv hl =>
            cases hl
            exact ⟨γ, _, w, .inl (hC.noEsc _ w), hv, r, (Ext.refl γ H).x, Below.refl B w⟩
        · cases h
      | false =>
        rw [h1] at h
        simp only [cond_false] at h
        cases h2 : f.beq C.mkNoZero with
        | true =>
          rw [h2] at h
          simp only [cond_true] at h
          have := Nat.eq_of_beq_eq_true h2
          subst this
          split at h
          · rename_i n
            cases hb2 : Nat.ble n 281474976710656 with
            | false => rw [hb2] at h; cases h
            | true =>
              rw [hb2] at h
              cases h
              rw [Nat.ble_eq] at hb2
              obtain ⟨l⟩ := args'
              cases ha with
              | cons hv hl =>
                cases hl
                cases hv
                obtain ⟨cap, cur, w2, q1, q2, q3, q4, q5, q6, q7⟩ := hC.mkNoZero n w hb2
                have hR2 : Rel γ B H w2 := r.of_heap q2
                have hrel := hR2.newRow hn (e := C.mkElem) (c := List.replicate n unk) (cur := cur) (by simp; omega) (fun i v hi => .inl (by
                  obtain ⟨h1, h2⟩ := List.getElem?_eq_some_iff.1 hi
                  simp at h2; subst h2; rfl))
                refine ⟨_, _, _, .inl q1, ?_, hrel, ExtX.put hn _ _, ?_⟩
                · have hg := Gam.put_same γ nid ⟨w2.heap.size, 0, cur.size⟩
                  have := VRel.sliceI (γ := γ.put nid ⟨w2.heap.size, 0, cur.size⟩) (off := 0) (len := n) (es := 1) (k := n) hg (by omega) (by omega) (Nat.le_refl _) (by simp; omega)
                  simpa [q6] using this
                · have b1 : Below B w w2 := ⟨q3, q4, q5, by rw [q2]; exact Nat.le_refl _, fun k _ => by rw [q2]⟩
                  exact b1.alloc (by rw [q2]; exact r.base) _
          · cases h
        | false =>
          rw [h2] at h
          simp only [cond_false] at h
          cases hg : args.all gnd with
          | false => rw [hg] at h; cases h
          | true =>
            rw [hg] at h
            simp only [cond_true] at h
            split at h
            · rename_i v hv
              cases hgv : gnd v with
              | false => rw [hgv] at h; cases h
              | true =>
                rw [hgv] at h
                cases h
                rw [args_eq ha hg]
                exact ⟨γ, v, w, .inl (prun_run hv w), gnd_rel v hgv, r, (Ext.refl γ H).x, Below.refl B w⟩
            · cases h
  · cases h

theorem depth_pos : ∃ n, Made.depth = n + 1 := ⟨Made.depth - 1, by decide⟩

theorem amethod_sound (hC : C.Fits P) (r : Rel γ B H w) {nid : Nat} (hn : γ nid = none) {recv recv' : Value} {name : String} {args : List Value} {args' : Array Value} {out : Out} (hr : VRel γ recv recv') (ha : VsRel γ args args'.toList)
    (h : amethod C P H nid recv name args = some out) : OpGoes nid γ B H w P out ((callMethod recv' name args').run P w) := by
  unfold amethod at h
  split at h
  · rename_i t v
    cases hr with
    | @iface _ _ v' hv =>
      split at h
      · rename_i i d hi hd
        split at h
        · rename_i m hm
          obtain ⟨k, hk⟩ := depth_pos
          have hfuel : P.types.size + Made.depth = (P.types.size + k) + 1 := by rw [hk]; omega
          have key : ∀ f pr, m.path.isEmpty = true → m.func = some (f, pr) → ((∃ e, d = .pointer e) ∧ pr = true ∨ (∀ e, d ≠ .pointer e) ∧ pr = false) →
              (callMethod (.iface t v') name args').run P w = (callFunc f (#[v'] ++ args')).run P w := fun f pr hp hfn hc => by
            have hpath : m.path = #[] := by simpa using hp
            have hm' : i.methods.find? (fun x => x.name == name) = some m := hm
            simp only [callMethod, Sem.run_bind, run_program, Result.andThen_ok, hfuel, method, run_info hC.x hi, hm', hpath, follow, Sem.run_pure, hfn, receiverAt, run_und hC.x hd]
            rcases hc with ⟨⟨e, rfl⟩, rfl⟩ | ⟨hne, rfl⟩
            · simp [Place.get]
            · cases d <;> first | exact absurd rfl (hne _) | simp [Place.get]
          have hcons : VsRel γ (v :: args) (#[v'] ++ args').toList := by simpa using VsRel.cons hv ha
          split at h
          · rename_i f e hp hf
            rw [key f true hp hf (.inl ⟨⟨e, rfl⟩, rfl⟩)]
            exact acall_sound hC r hn hcons h
          · cases h
          · rename_i f hp hf hnp
            rw [key f false hp hf (.inr ⟨fun e he => hnp e he, rfl⟩)]
            exact acall_sound hC r hn hcons h
          · cases h
        · cases h
      · cases h
  · cases h
end
end
end Go.AM

/- The abstract machine, part 19: every operation is what it says. -/
namespace Go.AM
open Go Go.RowKit
noncomputable section

section
variable {γ : Gam} {B : Nat} {H : AHeap} {w : World} {C : Cy} {P : Program}

theorem OpGoes.quietV {nid : Nat} {v v' : Value} {s : Sem Value} (r : Rel γ B H w) (h1 : s.run P w = .ok v' w) (h2 : VRel γ v v') : OpGoes nid γ B H w P (.val v H) ((do pure (.value (← s)) : Sem Next).run P w) :=
  .of_quiet r ⟨v', h1, h2⟩

theorem builtin_v {s : Sem Value} {P : Program} {w : World} : ((do let x ← s; pure (Next.value x) : Sem Next)).run P w = ((do pure (.value (← s)) : Sem Next)).run P w := rfl

theorem abuiltin_sound (hC : C.Fits P) (r : Rel γ B H w) {nid : Nat} (hn : γ nid = none) {b : Builtin} {ts : List TypeId} {ty : TypeId} {consts : Array Bool} {args : List Value} {args' : Array Value} {out : Out} (ha : VsRel γ args args'.toList)
    (h : abuiltin C P H nid b ts ty args = some out) : OpGoes nid γ B H w P out ((builtin b ts.toArray ty consts args').run P w) := by
  obtain ⟨l⟩ := args'
  unfold abuiltin at h
  split at h
  · cases ha with
    | cons h1 ha => cases ha with
      | cons h2 ha =>
        cases ha
        obtain ⟨u, hu, rfl⟩ := ovalH_some h
        exact .of_goes (aappend_sound hC.x r hn h1 h2 hu)
  · cases ha with
    | cons h1 ha =>
      cases ha
      obtain ⟨u, hu, rfl⟩ := oval_some h
      exact .of_quiet r (acap_sound hC.x h1 hu)
  · cases ha with
    | cons h1 ha =>
      cases ha
      obtain ⟨u, hu, rfl⟩ := oval_some h
      exact .of_quiet r (alen_sound hC.x r h1 hu)
  · cases ha with
    | cons h1 ha => cases ha with
      | cons h2 ha =>
        cases ha
        obtain ⟨u, hu, rfl⟩ := ovalH_some h
        exact .of_goes (acopy_sound hC.x r h1 h2 hu)
  · cases ha with
    | cons h1 ha => cases ha with
      | cons h2 ha =>
        cases ha
        obtain ⟨u, hu, rfl⟩ := oskip_some h
        exact .of_goes (adelete_sound hC.x r h1 h2 hu)
  · cases hg : args.all gnd with
    | false => rw [hg] at h; cases h
    | true =>
      rw [hg] at h
      obtain ⟨u, hu, rfl⟩ := oval_some h
      have := args_eq (args' := ⟨l⟩) ha hg
      obtain ⟨h1, h2⟩ := gprun_sound (γ := γ) (w := w) hu
      rw [this]
      exact .quietV r h1 h2
  · cases hg : args.all gnd with
    | false => rw [hg] at h; cases h
    | true =>
      rw [hg] at h
      obtain ⟨u, hu, rfl⟩ := oval_some h
      have := args_eq (args' := ⟨l⟩) ha hg
      obtain ⟨h1, h2⟩ := gprun_sound (γ := γ) (w := w) hu
      rw [this]
      exact .quietV r h1 h2
  · cases ha with
    | cons h1 ha => cases ha with
      | cons h2 ha =>
        cases ha
        obtain ⟨u, hu, rfl⟩ := ovalH_some h
        exact .of_goes (aunsafeString_sound hC.x r h1 h2 hu)
  · cases ha with
    | cons h1 ha =>
      cases ha
      obtain ⟨u, hu, rfl⟩ := oval_some h
      exact .of_quiet r (aunsafeSliceData_sound h1 hu)
  · cases h
    rfl
  · cases h

theorem acallV_sound (hC : C.Fits P) (r : Rel γ B H w) {nid : Nat} (hn : γ nid = none) {fv fv' : Value} {args : List Value} {args' : Array Value} {out : Out} (hf : VRel γ fv fv') (ha : VsRel γ args args'.toList)
    (h : acallV C P H nid fv args = some out) : OpGoes nid γ B H w P out ((do let d ← Deferred.ofValue fv' args'; invoke d.target d.args : Sem Next).run P w) := by
  unfold acallV at h
  split at h
  · rename_i f first cap
    cases hf with
    | func hfn h1 h2 =>
      cases hfn
      rename_i f' c'
      simp only [Deferred.ofValue, pure_bind]
      exact acall_sound hC r hn (by simpa using (h1.append ha).append h2) h
  · rename_i l first cap
    cases hf with
    | func hfn h1 h2 =>
      cases hfn with
      | yield hl =>
        cases h
        rename_i f' c' g
        exact ⟨_, _, hl, by simpa using h1.append ha, rfl⟩
  · rename_i name first cap
    cases hf with
    | func hfn h1 h2 =>
      cases hfn
      rename_i f' _ c'
      simp only [Deferred.ofValue, pure_bind]
      have hall := h1.append ha
      split at h
      · rename_i recv rest heq
        rw [heq] at hall
        have he : ((⟨f'⟩ : Array Value) ++ args').toList = f' ++ args'.toList := by simp
        generalize hq : (⟨f'⟩ : Array Value) ++ args' = q at *
        obtain ⟨q⟩ := q
        simp only at he
        rw [← he] at hall
        cases hall with
        | cons hr hrest =>
          rename_i r' l'
          have hx : (⟨r' :: l'⟩ : Array Value).extract 1 (⟨r' :: l'⟩ : Array Value).size = ⟨l'⟩ := by simp
          have := amethod_sound hC r hn (args' := ⟨l'⟩) hr hrest h
          simp only [invoke]
          simpa using this
      · cases h
  · cases h
end
end
end Go.AM

/- The abstract machine, part 20: every operation is what it says, by its kind. -/
namespace Go.AM
open Go Go.RowKit
noncomputable section

section
variable {γ : Gam} {B : Nat} {H : AHeap} {w : World} {C : Cy} {P : Program}

theorem anilCheck_some {v u : Value} (h : anilCheck v = some u) : u = v := by
  unfold anilCheck at h
  split at h <;> first | (cases h; rfl) | cases h

theorem aop_sound (hC : C.Fits P) (r : Rel γ B H w) {nid : Nat} (hn : γ nid = none) {T : PT Value} {ρ : Operand → Value} {o : Oper} {out : Out} (hρ : ∀ x ∈ o.op.operands.toList, ER C γ T ρ x)
    (h : aop C P T o H nid = some out) : OpGoes nid γ B H w P out ((execOp ρ o).run P w) := by
  unfold aop at h
  unfold execOp
  split at h
  -- move
  · rename_i x ho
    simp only [ho, Op.operands] at hρ ⊢
    obtain ⟨u, hu, rfl⟩ := oval_some h
    exact .of_pure r (hρ x (by simp) u hu)
  · rename_i x ho
    simp only [ho, Op.operands] at hρ ⊢
    obtain ⟨u, hu, rfl⟩ := oval_some h
    exact .of_pure r (hρ x (by simp) u hu)
  -- pick
  · rename_i c a b ho
    simp only [ho, Op.operands] at hρ ⊢
    split at h
    · rename_i hc
      have h1 := hρ c (by simp) _ hc
      obtain ⟨u, hu, rfl⟩ := oval_some h
      have h2 := hρ a (by simp) u hu
      generalize ρ c = vc at h1
      cases h1
      exact OpGoes.of_pure r h2
    · rename_i hc
      have h1 := hρ c (by simp) _ hc
      obtain ⟨u, hu, rfl⟩ := oval_some h
      have h2 := hρ b (by simp) u hu
      generalize ρ c = vc at h1
      cases h1
      exact OpGoes.of_pure r h2
    · cases h
  -- alloc
  · rename_i e ho
    simp only [ho]
    obtain ⟨u, hu, rfl⟩ := ovalH_some h
    exact .of_goes (aallocV_sound hC.x r hn hu)
  -- box
  · rename_i e x ho
    simp only [ho, Op.operands] at hρ ⊢
    split at h
    · rename_i v hv
      obtain ⟨u, hu, rfl⟩ := ovalH_some h
      cases hu
      exact .of_goes (abox_sound r hn (hρ x (by simp) v hv))
    · cases h
  -- build
  · rename_i t ps ho
    simp only [ho, Op.operands] at hρ ⊢
    split at h
    · rename_i l hl
      obtain ⟨u, hu, rfl⟩ := oval_some h
      obtain ⟨ps⟩ := ps
      have hp := erps (ρ := ρ) (fun x hx => hρ x.2 (by simpa using ⟨x.1, hx⟩)) hl
      simpa using OpGoes.of_quiet (nid := nid) r (abuild_sound (w := w) hC.x hp hu)
    · cases h
  -- buildSlice
  · rename_i t len ps ho
    simp only [ho, Op.operands] at hρ ⊢
    split at h
    · rename_i l hl
      obtain ⟨u, hu, rfl⟩ := ovalH_some h
      obtain ⟨ps⟩ := ps
      have hp := erps (ρ := ρ) (fun x hx => hρ x.2 (by simpa using ⟨x.1, hx⟩)) hl
      simpa using OpGoes.of_goes (abuildSlice_sound hC.x r hn hp hu)
    · cases h
  -- load
  · rename_i t a ho
    simp only [ho, Op.operands] at hρ ⊢
    split at h
    · rename_i v hv
      obtain ⟨u, hu, rfl⟩ := oval_some h
      exact .of_quiet r (aload_sound hC.x r (hρ a (by simp) v hv) hu)
    · cases h
  -- store
  · rename_i t a x ho
    simp only [ho, Op.operands] at hρ ⊢
    split at h
    · rename_i v y hv hy
      obtain ⟨u, hu, rfl⟩ := oskip_some h
      exact .of_goesU (astore_sound hC.x r (hρ a (by simp) v hv) (hρ x (by simp) y hy) hu)
    · cases h
  -- nilCheck
  · rename_i x ho
    simp only [ho, Op.operands] at hρ ⊢
    split at h
    · rename_i v hv
      obtain ⟨u, hu, rfl⟩ := oval_some h
      have h1 := hρ x (by simp) v hv
      have := anilCheck_some hu
      subst this
      unfold anilCheck at hu
      generalize ρ x = vx at h1
      split at hu
      · cases h1
        rename_i hg
        exact .of_pure r (.ptr hg)
      · cases h1 with
        | func hf ha hc =>
          cases hf
          exact .of_pure r (.func (.func _) ha hc)
      · cases h1 with
        | func hf ha hc =>
          cases hf with
          | yield hl => exact .of_pure r (.func (.yield hl) ha hc)
      · cases h1 with
        | iface h2 => exact .of_pure r (.iface h2)
      · cases hu
    · cases h
  -- binOp
  · rename_i op t x y _ ho
    simp only [ho, Op.operands] at hρ ⊢
    split at h
    · rename_i a b ha hb
      obtain ⟨u, hu, rfl⟩ := oval_some h
      exact .of_quiet r (abin_sound hC.x r (hρ x (by simp) a ha) (hρ y (by simp) b hb) hu)
    · cases h
  -- unOp
  · rename_i op _ x ho
    simp only [ho, Op.operands] at hρ ⊢
    split at h
    · rename_i v hv
      have h1 := hρ x (by simp) v hv
      cases hg : gnd v with
      | false => rw [hg] at h; cases h
      | true =>
        rw [hg] at h
        obtain ⟨u, hu, rfl⟩ := oval_some h
        rw [gnd_eq h1 hg]
        obtain ⟨q1, q2⟩ := gprun_sound (γ := γ) (w := w) hu
        exact .quietV r q1 q2
    · cases h
  -- convert
  · rename_i src dst x ho
    simp only [ho, Op.operands] at hρ ⊢
    split at h
    · rename_i v hv
      have h1 := hρ x (by simp) v hv
      split at h
      · rename_i u hu
        cases h
        exact .of_quiet r (aconvP_sound hC.x r h1 hu)
      · obtain ⟨u, hu, rfl⟩ := ovalH_some h
        exact .of_goes (aconvert_sound hC.x r hn h1 hu)
    · cases h
  -- makeInterface
  · rename_i t x ho
    simp only [ho, Op.operands] at hρ ⊢
    split at h
    · cases h
    · rename_i v d hne hv hd
      cases h
      refine .quietV r (v' := .iface t (ρ x)) ?_ (.iface (hρ x (by simp) v hv))
      simp only [Instr.makeInterface, Sem.run_bind, run_und hC.x hd, Result.andThen_ok]
      rfl
    · cases h
  -- makeFunc
  · rename_i fn first cap ho
    simp only [ho, Op.operands] at hρ ⊢
    obtain ⟨first⟩ := first
    obtain ⟨cap⟩ := cap
    split at h
    · rename_i a c ha hc
      have q1 := ers (ρ := ρ) (fun x hx => hρ x (by simpa using .inl hx)) ha
      have q2 := ers (ρ := ρ) (fun x hx => hρ x (by simpa using .inr hx)) hc
      split at h
      · cases h
      · rename_i hny
        cases h
        refine .quietV r (v' := .func fn ⟨first.map ρ⟩ ⟨cap.map ρ⟩) ?_ (.func ?_ q1 q2)
        · simp [Instr.makeFunc]
        · cases fn with
          | yield l => exact absurd rfl (hny l)
          | func f => exact .func f
          | method s => exact .method s
          | methodOf t s => exact .methodOf t s
          | via t p f q => exact .via t p f q
    · cases h
  -- makeMap
  · rename_i t ho
    simp only [ho] at hρ ⊢
    cases h
    exact .of_goes (amakeMap_sound r hn)
  -- makeSlice
  · rename_i t l c ho
    simp only [ho, Op.operands] at hρ ⊢
    split at h
    · rename_i a b ha hb
      obtain ⟨u, hu, rfl⟩ := ovalH_some h
      exact .of_goes (amakeSlice_sound hC.x r hn (hρ l (by simp) a ha) (hρ c (by simp) b hb) hu)
    · cases h
  -- slice
  · rename_i t x lo hi mx ho
    simp only [ho, Op.operands] at hρ ⊢
    split at h
    · rename_i a b c d ha hb hc hd
      obtain ⟨u, hu, rfl⟩ := oval_some h
      exact .of_quiet r (asliceAt_sound hC.x r (hρ x (by simp) a ha) (ero (fun y hy => hρ y (by subst hy; simp)) hb) (ero (fun y hy => hρ y (by subst hy; simp)) hc) (ero (fun y hy => hρ y (by subst hy; simp)) hd) hu)
    · cases h
  -- fieldAddr
  · rename_i s x f ho
    simp only [ho, Op.operands] at hρ ⊢
    split at h
    · rename_i v hv
      obtain ⟨u, hu, rfl⟩ := oval_some h
      exact .of_quiet r (afieldAddr_sound hC.x (hρ x (by simp) v hv) hu)
    · cases h
  -- field
  · rename_i s x f ho
    simp only [ho, Op.operands] at hρ ⊢
    split at h
    · rename_i v hv
      obtain ⟨u, hu, rfl⟩ := oval_some h
      exact .of_quiet r (afield_sound hC.x (hρ x (by simp) v hv) hu)
    · cases h
  -- indexAddr
  · rename_i t x y ho
    simp only [ho, Op.operands] at hρ ⊢
    split at h
    · rename_i a b ha hb
      obtain ⟨u, hu, rfl⟩ := oval_some h
      exact .of_quiet r (aindexAddr_sound hC.x (hρ x (by simp) a ha) (hρ y (by simp) b hb) hu)
    · cases h
  -- index
  · rename_i t x y ho
    simp only [ho, Op.operands] at hρ ⊢
    split at h
    · rename_i a b ha hb
      obtain ⟨u, hu, rfl⟩ := oval_some h
      exact .of_quiet r (aindex_sound hC.x (hρ x (by simp) a ha) (hρ y (by simp) b hb) hu)
    · cases h
  -- lookup
  · rename_i t x y ok ho
    simp only [ho, Op.operands] at hρ ⊢
    split at h
    · rename_i a b ha hb
      obtain ⟨u, hu, rfl⟩ := oval_some h
      exact .of_quiet r (alookup_sound hC.x r (hρ x (by simp) a ha) (hρ y (by simp) b hb) hu)
    · cases h
  -- mapUpdate
  · rename_i t m k x ho
    simp only [ho, Op.operands] at hρ ⊢
    split at h
    · rename_i a b c ha hb hc
      obtain ⟨u, hu, rfl⟩ := oskip_some h
      exact .of_goesU (amapUpdate_sound hC.x r (hρ m (by simp) a ha) (hρ k (by simp) b hb) (hρ x (by simp) c hc) hu)
    · cases h
  · rename_i t m k x ho
    simp only [ho, Op.operands] at hρ ⊢
    split at h
    · rename_i a b c ha hb hc
      obtain ⟨u, hu, rfl⟩ := oskip_some h
      exact .of_goesU (amapUpdate_sound hC.x r (hρ m (by simp) a ha) (hρ k (by simp) b hb) (hρ x (by simp) c hc) hu)
    · cases h
  -- range
  · rename_i t x ho
    simp only [ho, Op.operands] at hρ ⊢
    split at h
    · rename_i v hv
      obtain ⟨u, hu, rfl⟩ := ovalH_some h
      exact .of_goes (arange_sound hC.x r hn (hρ x (by simp) v hv) hu)
    · cases h
  -- next
  · rename_i it s ho
    simp only [ho, Op.operands] at hρ ⊢
    split at h
    · rename_i v hv
      obtain ⟨u, hu, rfl⟩ := ovalH_some h
      exact .of_goes (anext_sound r (hρ it (by simp) v hv) hu)
    · cases h
  -- typeAssert
  · rename_i x _ t ok ho
    simp only [ho, Op.operands] at hρ ⊢
    split at h
    · rename_i v hv
      obtain ⟨u, hu, rfl⟩ := oval_some h
      exact .of_quiet r (aassert_sound hC.x (hρ x (by simp) v hv) hu)
    · cases h
  -- extract
  · rename_i t i ho
    simp only [ho, Op.operands] at hρ ⊢
    split at h
    · rename_i v hv
      obtain ⟨u, hu, rfl⟩ := oval_some h
      exact .of_quiet r (aextract_sound (hρ t (by simp) v hv) hu)
    · cases h
  -- call
  · rename_i c ho
    simp only [ho, Op.operands, Call.operands] at hρ ⊢
    split at h
    · rename_i args hargs
      have hall := ers (ρ := ρ) (fun x hx => hρ x (by simp [hx])) hargs
      have hall' : VsRel γ args (c.args.map ρ).toList := by simpa using hall
      split at h
      · rename_i b hb
        simp only [resolve, hb, pure_bind, invoke]
        exact abuiltin_sound hC r hn hall' h
      · rename_i rv name hb
        split at h
        · rename_i v hv
          have h1 := hρ rv (by simp [hb]) v hv
          simp only [resolve, hb, pure_bind, invoke]
          have := amethod_sound hC r hn h1 hall' h
          have he : (#[ρ rv] ++ Array.map ρ c.args)[0]? = some (ρ rv) := by simp [Array.getElem?_append]
          have hx : (#[ρ rv] ++ Array.map ρ c.args).extract 1 (#[ρ rv] ++ Array.map ρ c.args).size = Array.map ρ c.args := by
            rw [Array.extract_append]
            simp
          rw [he, hx]
          exact this
        · cases h
      · rename_i f hb
        split at h
        · rename_i v hv
          have h1 := hρ f (by simp [hb]) v hv
          simp only [resolve, hb]
          exact acallV_sound hC r hn h1 hall' h
        · cases h
    · cases h
  -- defer
  · rename_i c ho
    simp only [ho, Op.operands, Call.operands] at hρ ⊢
    split at h
    · rename_i args f hargs hb
      have hall := ers (ρ := ρ) (fun x hx => hρ x (by simp [hx])) hargs
      have hall' : VsRel γ args (c.args.map ρ).toList := by simpa using hall
      split at h
      · rename_i g first cap hv
        have h1 := hρ f (by simp [hb]) _ hv
        cases h
        simp only [resolve, hb]
        generalize ρ f = vf at h1
        cases h1 with
        | func hf q1 q2 =>
          cases hf
          rename_i f' c'
          refine ⟨⟨.fn (.func g) ⟨c'⟩, ⟨f'⟩ ++ c.args.map ρ⟩, ⟨c'⟩, _, ?_, ?_, rfl, rfl⟩
          · simp [Deferred.ofValue]
          · simpa using (q1.append hall').append q2
      · cases h
    · cases h
  · cases h
end
end
end Go.AM

/- The abstract machine, part 21: temporaries, deferred calls, guards; what the checks on a region say. -/
namespace Go.AM
open Go Go.RowKit
noncomputable section

section
variable {γ : Gam} {C : Cy} {P : Program}

theorem Fr.put_spec {fr fr' : Fr} {dst : Option Tmp} {v : Value} (h : fr.put dst v = some fr') :
    fr'.n = fr.n ∧ fr'.ds = fr.ds ∧ fr'.rd = fr.rd ∧ ((dst = none ∧ fr'.T = fr.T) ∨ ∃ d, dst = some d ∧ d < fr.n ∧ fr'.T = fr.T.set d v) := by
  unfold Fr.put at h
  split at h
  · cases h; exact ⟨rfl, rfl, rfl, .inl ⟨rfl, rfl⟩⟩
  · rename_i d
    cases hb : Nat.blt d fr.n with
    | false => rw [hb] at h; cases h
    | true =>
      rw [hb, forceV_eq] at h
      rw [Nat.blt_eq] at hb
      simp only [cond_true] at h
      split at h
      · rename_i hs; cases h; exact ⟨rfl, rfl, rfl, .inr ⟨d, rfl, hb, hs.symm⟩⟩
      · rename_i hs; cases h; exact ⟨rfl, rfl, rfl, .inr ⟨d, rfl, hb, hs.symm⟩⟩

theorem Act.put_tmps (a : Act) (dst : Option Tmp) (v : Value) : (a.put dst v).tmps = match dst with
    | some d => a.tmps.setIfInBounds d v
    | none => a.tmps := by cases dst <;> rfl
theorem Act.put_defers (a : Act) (dst : Option Tmp) (v : Value) : (a.put dst v).defers = a.defers := by cases dst <;> rfl

theorem TRel.put {fr fr' : Fr} {a : Act} {dst : Option Tmp} {v v' : Value} (h : TRel γ fr.T fr.n a.tmps) (hv : VRel γ v v') (hp : fr.put dst v = some fr') : TRel γ fr'.T fr'.n (a.put dst v').tmps := by
  obtain ⟨h1, _, _, h4⟩ := Fr.put_spec hp
  rw [h1]
  rcases h4 with ⟨rfl, hT⟩ | ⟨d, rfl, hd, hT⟩
  · rw [hT]; exact h
  · rw [hT]
    refine ⟨by simp [Act.put, h.1], fun i => ?_⟩
    rw [PT.get_set]
    simp only [Act.put]
    by_cases e : i = d
    · subst e
      have : i < a.tmps.size := by rw [h.1]; exact hd
      simp [this, hv]
    · have := h.2 i
      simp only [if_neg e]
      rw [Array.getD_eq_getD_getElem?, Array.getElem?_setIfInBounds_ne (Ne.symm e), ← Array.getD_eq_getD_getElem?]
      exact this

/-- Is an operation guarded away? The world says the same. -/
theorem wanted_eq {T : PT Value} {n : Nat} {tmps : Array Value} {ops : Array Oper} {o : Oper} (h : ∀ j want oj d, o.guard = some (j, want) → ops[j]? = some oj → oj.dst = some d → VRel γ ((T.get d).getD unk) (tmps.getD d undef)) :
    Region.wanted o (yielded ops tmps) = wantedA T ops o := by
  have _ := n
  unfold Region.wanted wantedA
  cases hg : o.guard with
  | none => rfl
  | some jw =>
    obtain ⟨j, want⟩ := jw
    unfold yielded
    cases hj : ops[j]? with
    | none => simp [hj]
    | some oj =>
      cases hd : oj.dst with
      | none => simp [hj, hd]
      | some d =>
        have hr := h j want oj d hg hj hd
        simp only [hj, Option.bind_some, hd]
        rw [Array.getD_eq_getD_getElem?] at hr
        cases hT : T.get d with
        | none =>
          rw [hT] at hr
          cases ht : tmps[d]? with
          | none => simp
          | some u =>
            rw [ht] at hr
            simp only [Option.getD_none, Option.getD_some, unk] at hr
            cases hr
            simp
        | some v =>
          rw [hT] at hr
          cases ht : tmps[d]? with
          | none =>
            rw [ht] at hr
            simp only [Option.getD_none, Option.getD_some, undef] at hr
            generalize hq : (Value.tuple #[]) = q at hr
            cases hr <;> first | cases hq; done | (cases hq; rfl) | simp
          | some u =>
            rw [ht] at hr
            simp only [Option.getD_some] at hr
            cases hr <;> simp

mutual
theorem veq_eq : ∀ {v u : Value}, veq v u = true → v = u
  | v, u, h => by
    unfold veq at h
    split at h
    · simp at h; rw [h]
    · simp at h; rw [h.1, h.2]
    · rw [(bytes_beq _ _).1 h]
    · rfl
    · simp only [Bool.and_eq_true, Nat.beq_eq] at h; rw [h.1, h.2]
    · simp only [Bool.and_eq_true, Nat.beq_eq] at h; rw [h.1, h.2]
    · simp only [Bool.and_eq_true, Nat.beq_eq] at h; obtain ⟨⟨⟨h1, h2⟩, h3⟩, h4⟩ := h; rw [h1, h2, h3, h4]
    · rfl
    · simp only [Nat.beq_eq] at h; rw [h]
    · rfl
    · simp only [Bool.and_eq_true, Nat.beq_eq] at h; obtain ⟨⟨h1, h2⟩, h3⟩ := h; rw [h1, veqA_eq h2, veqA_eq h3]
    · simp only [Bool.and_eq_true, Nat.beq_eq] at h; obtain ⟨⟨h1, h2⟩, h3⟩ := h; rw [h1, veqA_eq h2, veqA_eq h3]
    · rfl
    · simp only [Bool.and_eq_true, Nat.beq_eq] at h; rw [h.1, veq_eq h.2]
    · rw [veqA_eq h]
    · rw [veqA_eq h]
    · cases h
theorem veqA_eq : ∀ {v u : Array Value}, veqA v u = true → v = u
  | ⟨a⟩, ⟨b⟩, h => by unfold veqA at h; rw [veqL_eq h]
theorem veqL_eq : ∀ {v u : List Value}, veqL v u = true → v = u
  | [], [], _ => rfl
  | v :: l, x :: m, h => by
    unfold veqL at h
    simp only [Bool.and_eq_true] at h
    rw [veq_eq h.1, veqL_eq h.2]
  | [], _ :: _, h => by simp [veqL] at h
  | _ :: _, [], h => by simp [veqL] at h
end

theorem sameObj_eq {a b : Option AObj} (h : sameObj a b = true) : a = b := by
  unfold sameObj at h
  split at h
  · rfl
  · simp only [Bool.and_eq_true, Nat.beq_eq] at h; obtain ⟨⟨h1, h2⟩, h3⟩ := h; rw [veqL_eq h1, h2, h3]
  · simp only [Nat.beq_eq] at h; rw [h]
  · cases h

theorem isUnk_eq {v : Value} (h : isUnk v = true) : v = unk := by
  unfold isUnk at h
  split at h
  · rfl
  · cases h
end
end
end Go.AM

/- The abstract machine, part 22: an operation without an effect turns nothing but the place of its own. -/
namespace Go.AM
open Go Go.RowKit
noncomputable section

section
variable {C : Cy} {P : Program}

def Frm (H : AHeap) (nid : Nat) (H' : AHeap) : Prop := H' = H ∨ ∃ obj, H' = H.put nid obj
theorem frm_oval {H : AHeap} {nid : Nat} {o : Option Value} {v : Value} {H' : AHeap} (h : oval H o = some (.val v H')) : Frm H nid H' := by
  cases o with
  | none => cases h
  | some u => cases h; exact .inl rfl
theorem frm_ovalH {H : AHeap} {nid : Nat} {o : Option (Value × AHeap)} {v : Value} {H' : AHeap} (ho : ∀ u, o = some u → Frm H nid u.2) (h : ovalH o = some (.val v H')) : Frm H nid H' := by
  cases o with
  | none => cases h
  | some u => cases h; exact ho _ rfl

theorem bif_some {α : Type} {b : Bool} {a : Option α} {u : α} (h : (bif b then a else none) = some u) : b = true ∧ a = some u := by
  cases b with
  | false => cases h
  | true => exact ⟨rfl, h⟩
theorem frm_alloc {H : AHeap} {nid e : Nat} {u : Value × AHeap} (h : aallocV C.toCx H nid e = some u) : Frm H nid u.2 := by
  unfold aallocV at h
  split at h
  · cases h; exact .inr ⟨_, rfl⟩
  · cases h
theorem frm_buildSlice {H : AHeap} {nid t len : Nat} {ps : List (Nat × Value)} {u : Value × AHeap} (h : abuildSlice C.toCx H nid t len ps = some u) : Frm H nid u.2 := by
  unfold abuildSlice at h
  split at h
  · split at h
    · rename_i es z _ _
      cases hb : (Nat.blt 0 es && Nat.blt es 65536 && Nat.ble (len * es) 16777216 && Nat.blt 0 len) with
      | true =>
        rw [hb, cond_true] at h
        split at h
        · obtain ⟨_, h⟩ := bif_some h
          rw [rebuild_eq] at h; cases h; exact .inr ⟨_, rfl⟩
        · cases h
      | false =>
        rw [hb, cond_false] at h
        obtain ⟨_, h⟩ := bif_some h
        cases h; exact .inr ⟨_, rfl⟩
    · cases h
  · cases h
theorem frm_makeSlice {H : AHeap} {nid t : Nat} {l c : Value} {u : Value × AHeap} (h : amakeSlice C.toCx H nid t l c = some u) : Frm H nid u.2 := by
  unfold amakeSlice at h
  split at h
  · split at h
    · split at h
      · obtain ⟨_, h⟩ := bif_some h
        rw [rebuild_eq] at h; cases h; exact .inr ⟨_, rfl⟩
      · cases h
    · cases h
  · cases h
theorem frm_convG {H : AHeap} {src dst : Nat} {x : Value} {u : Value × AHeap} (h : aconvG P H src dst x = some u) : u.2 = H := by
  unfold aconvG at h
  obtain ⟨_, h⟩ := bif_some h
  split at h
  · cases h; rfl
  · cases h
theorem frm_convert {H : AHeap} {nid src dst : Nat} {x : Value} {u : Value × AHeap} (h : aconvert C.toCx P H nid src dst x = some u) : Frm H nid u.2 := by
  unfold aconvert at h
  split at h
  · split at h
    · cases h; exact .inl rfl
    · cases h
  · split at h
    · split at h
      · cases h; exact .inl rfl
      · cases h
    · cases h
  · split at h
    · cases h; exact .inr ⟨_, rfl⟩
    · cases h
  · exact .inl (frm_convG h)
theorem frm_builtin {H : AHeap} {nid : Nat} {b : Builtin} {ts : List TypeId} {ty : TypeId} {args : List Value} {v : Value} {H' : AHeap}
    (hb : b = .len ∨ b = .cap ∨ b = .min ∨ b = .max ∨ b = .unsafeSliceData) (h : abuiltin C P H nid b ts ty args = some (.val v H')) : Frm H nid H' := by
  unfold abuiltin at h
  split at h
  all_goals first
    | exact frm_oval h
    | exact frm_oval (bif_some h).2
    | (exfalso; simp at hb; done)
    | cases h

theorem calm_frame {T : PT Value} {o : Oper} {H : AHeap} {nid : Nat} {v : Value} {H' : AHeap} (hc : isEff C o = false) (h : aop C P T o H nid = some (.val v H')) : Frm H nid H' := by
  unfold isEff cls at hc
  unfold aop at h
  split at h
  all_goals (rename_i ho; simp only [ho] at hc)
  all_goals first
    | exact frm_oval h
    | cases hc; done
    | cases h; done
    | (split at h <;> first | exact frm_oval h | cases h; done)
    | skip
  · exact frm_ovalH (fun u hu => frm_alloc hu) h
  · split at h
    · exact frm_ovalH (fun u hu => by cases hu; exact .inr ⟨_, rfl⟩) h
    · cases h
  · split at h
    · exact frm_ovalH (fun u hu => frm_buildSlice hu) h
    · cases h
  · split at h
    · exact frm_oval (bif_some h).2
    · cases h
  · split at h
    · split at h
      · cases h; exact .inl rfl
      · exact frm_ovalH (fun u hu => frm_convert hu) h
    · cases h
  · split at h
    · cases h
    · cases h; exact .inl rfl
    · cases h
  · split at h
    · split at h
      · cases h
      · cases h; exact .inl rfl
    · cases h
  · cases h; exact .inr ⟨_, rfl⟩
  · split at h
    · exact frm_ovalH (fun u hu => frm_makeSlice hu) h
    · cases h
  · split at h
    · split at h
      · rename_i b hb
        rw [hb] at hc
        refine frm_builtin ?_ h
        cases b <;> first | (cases hc; done) | simp
      · rename_i hb
        rw [hb] at hc
        cases hc
      · rename_i hb
        rw [hb] at hc
        cases hc
    · cases h
end
end
end Go.AM
