/- The abstract machine, part 9: new blocks; stores. -/
import Derived.Test.YtfkhhbjdlgklnaaGreatDoorMA
import Derived.Laws.IdiomStrings
import Derived.Laws.MakeOwn
namespace Go.AM
open Go Go.RowKit
noncomputable section

/-- As 'Ext', but for one place. -/
structure ExtX (nid : Nat) (γ γ' : Gam) (H H' : AHeap) : Prop where
  le : γ.le γ'
  next : H.next ≤ H'.next
  out : ∀ x, x < H.next → x ≠ nid → γ x = none → γ' x = none ∧ H'.get x = H.get x
theorem Ext.x {nid : Nat} {γ γ' : Gam} {H H' : AHeap} (h : Ext γ γ' H H') : ExtX nid γ γ' H H' := ⟨h.le, h.next, fun x hx _ hn => h.out x hx hn⟩
theorem ExtX.ext {nid : Nat} {γ γ' : Gam} {H H' : AHeap} (h : ExtX nid γ γ' H H') (hn : H.next ≤ nid) : Ext γ γ' H H' := ⟨h.le, h.next, fun x hx hn' => h.out x hx (by omega) hn'⟩
theorem ExtX.put {nid : Nat} {γ : Gam} {H : AHeap} (hx : γ nid = none) (g : G) (o : AObj) : ExtX nid γ (γ.put nid g) H (H.put nid o) :=
  ⟨Gam.le_put hx, by rw [AHeap.put_next]; omega, fun y _ e hn => by rw [Gam.put_other _ _ e, AHeap.get_put]; simp [e, hn]⟩
theorem Ext.upd {γ : Gam} {H : AHeap} {x : Nat} {g : G} (hx : γ x = some g) (o : AObj) : Ext γ γ H (H.put x o) :=
  ⟨Gam.le.refl γ, by rw [AHeap.put_next]; omega, fun y _ hn => by
    have e : y ≠ x := fun e => by subst e; rw [hx] at hn; cases hn
    rw [AHeap.get_put]; simp [e, hn]⟩

/-- An operation that gives a value. -/
def Goes (nid : Nat) (γ : Gam) (B : Nat) (H : AHeap) (w : World) (v : Value) (H' : AHeap) (r : Result Value) : Prop :=
  ∃ γ' v' w', r = .ok v' w' ∧ VRel γ' v v' ∧ Rel γ' B H' w' ∧ ExtX nid γ γ' H H' ∧ Below B w w'
/-- One that gives none. -/
def GoesU (γ : Gam) (B : Nat) (H : AHeap) (w : World) (H' : AHeap) (r : Result Unit) : Prop :=
  ∃ w', r = .ok () w' ∧ Rel γ B H' w' ∧ Ext γ γ H H' ∧ Below B w w'

theorem Goes.quiet {nid : Nat} {γ : Gam} {B : Nat} {H : AHeap} {w : World} {v v' : Value} {r : Result Value} (hR : Rel γ B H w) (h : r = .ok v' w) (hv : VRel γ v v') : Goes nid γ B H w v H r :=
  ⟨γ, v', w, h, hv, hR, (Ext.refl γ H).x, Below.refl B w⟩

section
variable {γ : Gam} {B : Nat} {H : AHeap} {w : World} {C : Cx} {P : Program}

theorem CellsRel.of_vs {c c' : List Value} (h : VsRel γ c c') : CellsRel γ c c'.toArray 0 := fun i v hi => by
  obtain ⟨v', h1, h2⟩ := h.get hi
  exact .inr ⟨v', by simpa using h1, h2⟩
theorem CellsRel.of_vs_append {c c' : List Value} (h : VsRel γ c c') (rest : Array Value) : CellsRel γ c (c'.toArray ++ rest) 0 := fun i v hi => by
  obtain ⟨v', h1, h2⟩ := h.get hi
  refine .inr ⟨v', ?_, h2⟩
  have hl : i < c'.length := (List.getElem?_eq_some_iff.1 h1).1
  rw [Nat.zero_add, Array.getElem?_append_left (by simpa using hl)]
  simpa using h1

/-- A new row. -/
theorem Rel.newRow (r : Rel γ B H w) {nid : Nat} (hn : γ nid = none) {c : List Value} {cur : Array Value} {e : TypeId} (hlen : c.length ≤ cur.size) (hc : CellsRel γ c cur 0) :
    Rel (γ.put nid ⟨w.heap.size, 0, cur.size⟩) B (H.put nid (.cells c e 2)) (w.alloc (.cells cur e)) :=
  r.alloc hn _ _ ⟨cur, (0, 0), .inl rfl, fun _ _ _ _ => by simp, fun _ => ⟨rfl, rfl⟩, by simp, hlen, hc.mono (Gam.le_put hn)⟩

theorem below_alloc (r : Rel γ B H w) (o : Obj) : Below B w (w.alloc o) := (Below.refl B w).alloc r.base o

/-! ### A new variable -/
def anew (H : AHeap) (nid : Nat) (e : TypeId) (c : List Value) : AHeap := H.put nid (.cells c e 2)

def vcl : Value → List Value
  | .agg ⟨l⟩ => l
  | v => [v]
def abox (H : AHeap) (nid : Nat) (e : TypeId) (v : Value) : Value × AHeap := (.pointer (some ⟨nid, 0, none⟩), anew H nid e (vcl v))
theorem cells_rel {v v' : Value} (h : VRel γ v v') : VsRel γ (vcl v) v'.cells.toList := by
  cases h with
  | agg h => exact h
  | _ => exact .cons (by constructor <;> assumption) .nil
theorem abox_sound (r : Rel γ B H w) {nid : Nat} (hn : γ nid = none) {e : TypeId} {v v' : Value} (hv : VRel γ v v') :
    Goes nid γ B H w (abox H nid e v).1 (abox H nid e v).2 ((Instr.box e v').run P w) := by
  have hc := cells_rel hv
  have hrel := r.newRow hn (e := e) (c := vcl v) (cur := v'.cells) (by have := hc.length; simp at this; omega) (by have := CellsRel.of_vs hc; simpa using this)
  refine ⟨γ.put nid ⟨w.heap.size, 0, v'.cells.size⟩, .pointer (some ⟨w.heap.size, 0, none⟩), w.alloc (.cells v'.cells e), ?_, ?_, hrel, ExtX.put hn _ _, below_alloc r _⟩
  · simp [Instr.box, newVar, newRow]
  · exact .ptr (g := ⟨w.heap.size, 0, v'.cells.size⟩) (Gam.put_same _ _ _)

def aallocV (C : Cx) (H : AHeap) (nid : Nat) (e : TypeId) : Option (Value × AHeap) := match gzero C e with
  | some z => some (abox H nid e z)
  | none => none
theorem aallocV_sound (hF : C.Fits P) (r : Rel γ B H w) {nid : Nat} (hn : γ nid = none) {e : TypeId} {x : Value × AHeap} (h : aallocV C H nid e = some x) :
    Goes nid γ B H w x.1 x.2 ((Instr.alloc e true (.tuple #[])).run P w) := by
  unfold aallocV at h
  split at h
  · rename_i z hz
    cases h
    obtain ⟨h1, h2⟩ := gzero_sound (w := w) hF hz
    obtain ⟨γ', v', w', h3, h4⟩ := abox_sound (P := P) (e := e) r hn (gnd_rel z h2)
    refine ⟨γ', v', w', ?_, h4⟩
    simpa [Instr.alloc, Instr.box, h1] using h3
  · cases h

/-! ### Composite literals -/
theorem foldl_cells (off : Nat) : ∀ {l l' : List Value} {cs cs' : List Value} (k : Nat), VsRel γ l l' → VsRel γ cs cs' →
    VsRel γ ((l.zipIdx k).foldl (fun cs (c, j) => cs.setIfInBounds (off + j) c) cs.toArray).toList ((l'.zipIdx k).foldl (fun cs (c, j) => cs.setIfInBounds (off + j) c) cs'.toArray).toList := by
  intro l
  induction l with
  | nil => intro l' cs cs' k h hc; cases h; simpa using hc
  | cons v l ih =>
    intro l' cs cs' k h hc
    cases h with
    | cons hv hl =>
      simp only [List.zipIdx_cons, List.foldl_cons, List.setIfInBounds_toArray]
      exact ih (k + 1) hl (hc.set hv _)

theorem vcells_size {v v' : Value} (h : VRel γ v v') : v.cells.size = v'.cells.size := by
  cases h with
  | agg h => have := h.length; simpa [Value.cells] using this
  | _ => rfl
theorem vcells_rel {v v' : Value} (h : VRel γ v v') : VsRel γ v.cells.toList v'.cells.toList := by
  cases h with
  | agg h => exact h
  | _ => exact .cons (by constructor <;> assumption) .nil

inductive PsRel (γ : Gam) : List (Nat × Value) → List (Nat × Value) → Prop
  | nil : PsRel γ [] []
  | cons {i : Nat} {v v' : Value} {l l' : List (Nat × Value)} (h : VRel γ v v') (hl : PsRel γ l l') : PsRel γ ((i, v) :: l) ((i, v') :: l')

theorem fill_rel {place : Nat → Option (Nat × Nat)} : ∀ {ps ps' : List (Nat × Value)} {cs cs' r : Array Value}, PsRel γ ps ps' → VsRel γ cs.toList cs'.toList → Instr.fill place cs ps = some r →
    ∃ r', Instr.fill place cs' ps' = some r' ∧ VsRel γ r.toList r'.toList := by
  intro ps
  induction ps with
  | nil => intro ps' cs cs' r h hc hf; cases h; simp only [Instr.fill] at hf; cases hf; exact ⟨cs', rfl, hc⟩
  | cons p ps ih =>
    intro ps' cs cs' r h hc hf
    cases h with
    | @cons i v v' _ l' hv hl =>
      simp only [Instr.fill] at hf ⊢
      cases hp : place i with
      | none => rw [hp] at hf; cases hf
      | some q =>
        obtain ⟨off, size⟩ := q
        rw [hp] at hf
        simp only at hf ⊢
        have h1 := vcells_size hv
        have h2 : cs.size = cs'.size := by have := hc.length; simpa using this
        rw [← h1, ← h2]
        split at hf
        · cases hf
        · rename_i hne
          rw [if_neg hne]
          have h3 := foldl_cells (γ := γ) off 0 (vcells_rel hv) hc
          have e1 : ∀ (cs : Array Value) (v : Value), v.cells.zipIdx.foldl (fun cs (c, j) => cs.setIfInBounds (off + j) c) cs = v.cells.toList.zipIdx.foldl (fun cs (c, j) => cs.setIfInBounds (off + j) c) cs := fun cs v => by
            rw [← Array.foldl_toList, Array.toList_zipIdx]
          rw [e1] at hf ⊢
          refine ih hl ?_ hf
          simpa using h3

/-- The places of a struct's fields. -/
def fplaces (C : Cx) : List Field → Option (List (Nat × Nat))
  | [] => some []
  | f :: fs => (match C.size f.type, fplaces C fs with
    | some n, some l => some ((f.offset, n) :: l)
    | _, _ => none)
theorem run_mapM_list {α β : Type} {f : α → Sem β} {g : α → Option β} {w : World} (hg : ∀ a b, g a = some b → (f a).run P w = .ok b w) : ∀ {l : List α} {r : List β}, (l.mapM g) = some r → (l.mapM f).run P w = .ok r w := by
  intro l
  induction l with
  | nil => intro r h; simp at h; subst h; rfl
  | cons a l ih =>
    intro r h
    rw [List.mapM_cons] at h ⊢
    cases ha : g a with
    | none => rw [ha] at h; cases h
    | some b =>
      rw [ha] at h
      cases hl : l.mapM g with
      | none => rw [hl] at h; cases h
      | some r' =>
        rw [hl] at h
        cases h
        simp only [Sem.run_bind, hg a b ha, Result.andThen_ok, ih hl, Sem.run_pure]
theorem fplaces_mapM : ∀ (fs : List Field), fplaces C fs = fs.mapM (fun f => (C.size f.type).bind fun n => some (f.offset, n)) := by
  intro fs
  induction fs with
  | nil => rfl
  | cons f fs ih =>
    rw [List.mapM_cons, fplaces, ih]
    cases C.size f.type with
    | none => rfl
    | some n =>
      cases List.mapM (fun f => (C.size f.type).bind fun n => some (f.offset, n)) fs <;> rfl
theorem run_places (hF : C.Fits P) {fs : Array Field} {l : List (Nat × Nat)} (h : fplaces C fs.toList = some l) :
    (fs.mapM fun f => (do pure (f.offset, ← sizeOf f.type) : Sem (Nat × Nat))).run P w = .ok l.toArray w := by
  rw [fplaces_mapM] at h
  have h1 := run_mapM_list (P := P) (w := w) (f := fun f : Field => (do pure (f.offset, ← sizeOf f.type) : Sem (Nat × Nat))) (fun f b hb => by
    cases hs : C.size f.type with
    | none => rw [hs] at hb; cases hb
    | some n => rw [hs] at hb; cases hb; simp [run_size hF hs]) h
  rw [Array.mapM_eq_mapM_toList]
  simp only [Sem.run_map, h1, Result.andThen_ok]
theorem run_places' (hF : C.Fits P) {fs : Array Field} {l : List (Nat × Nat)} (h : fplaces C fs.toList = some l) :
    (fs.mapM fun f => (Prod.mk f.offset <$> sizeOf f.type : Sem (Nat × Nat))).run P w = .ok l.toArray w := by
  have := run_places (w := w) hF h
  simpa using this

def abuild (C : Cx) (t : TypeId) (ps : List (Nat × Value)) : Option Value := match gzero C t, C.und t with
  | some z, some (.struct fs) => (match fplaces C fs.toList with
    | some l => (match Instr.fill (fun i => l[i]?) z.cells ps with
      | some ⟨cs⟩ => some (.agg ⟨cs⟩)
      | none => none)
    | none => none)
  | some z, some (.array _ e) => (match C.size e with
    | some n => (match Instr.fill (fun i => some (i * n, n)) z.cells ps with
      | some ⟨cs⟩ => some (.agg ⟨cs⟩)
      | none => none)
    | none => none)
  | _, _ => none
theorem abuild_sound (hF : C.Fits P) {t : TypeId} {ps ps' : List (Nat × Value)} {v : Value} (hp : PsRel γ ps ps') (h : abuild C t ps = some v) :
    ∃ v', (Instr.build t ps'.toArray).run P w = .ok v' w ∧ VRel γ v v' := by
  unfold abuild at h
  split at h
  · rename_i z fs hz hu
    obtain ⟨h1, h2⟩ := gzero_sound (w := w) hF hz
    split at h
    · rename_i l hl
      split at h
      · rename_i cs hf
        cases h
        obtain ⟨r', h3, h4⟩ := fill_rel hp (vcells_rel (gnd_rel (γ := γ) z h2)) hf
        refine ⟨.agg r', ?_, .agg (l' := r'.toList) (by simpa using h4)⟩
        simp [Instr.build, h1, run_und hF hu, run_places' hF hl, h3]
      · cases h
    · cases h
  · rename_i z n0 e hz hu
    obtain ⟨h1, h2⟩ := gzero_sound (w := w) hF hz
    split at h
    · rename_i n hn
      split at h
      · rename_i cs hf
        cases h
        obtain ⟨r', h3, h4⟩ := fill_rel hp (vcells_rel (gnd_rel (γ := γ) z h2)) hf
        refine ⟨.agg r', ?_, .agg (l' := r'.toList) (by simpa using h4)⟩
        simp [Instr.build, h1, run_und hF hu, run_size hF hn, h3]
      · cases h
    · cases h
  · cases h
end
end
end Go.AM

/- The abstract machine, part 10: stores, slices that are made. -/
namespace Go.AM
open Go Go.RowKit
noncomputable section

/-- A list, cell by cell, ahead of what is done with it. -/
def rebuild {α β : Type} : List α → (List α → β) → β
  | [], k => k []
  | v :: l, k => rebuild l (fun l' => k (v :: l'))
theorem rebuild_eq {α β : Type} : ∀ (l : List α) (k : List α → β), rebuild l k = k l
  | [], _ => rfl
  | v :: l, k => by rw [rebuild, rebuild_eq l]

/-- Values are laid over a list, from a place on. -/
def lsplice : Nat → List Value → List Value → List Value
  | _, _, [] => []
  | n + 1, vs, x :: c => x :: lsplice n vs c
  | 0, [], x :: c => x :: c
  | 0, v :: vs, _ :: c => v :: lsplice 0 vs c
theorem lsplice_length : ∀ (n : Nat) (vs c : List Value), (lsplice n vs c).length = c.length := by
  intro n vs c
  induction c generalizing n vs with
  | nil => cases n <;> cases vs <;> rfl
  | cons x c ih =>
    cases n with
    | zero => cases vs with
      | nil => rfl
      | cons v vs => simp [lsplice, ih]
    | succ n => simp [lsplice, ih]
theorem lsplice_get : ∀ (n : Nat) (vs c : List Value) (j : Nat) (v : Value), (lsplice n vs c)[j]? = some v → (n ≤ j ∧ j < n + vs.length ∧ vs[j - n]? = some v) ∨ ((j < n ∨ n + vs.length ≤ j) ∧ c[j]? = some v) := by
  intro n vs c
  induction c generalizing n vs with
  | nil => intro j v h; cases n <;> cases vs <;> simp [lsplice] at h
  | cons x c ih =>
    intro j v h
    cases n with
    | zero => cases vs with
      | nil => right; exact ⟨.inr (by simp), h⟩
      | cons u vs =>
        simp only [lsplice] at h
        cases j with
        | zero => left; exact ⟨by omega, by simp, by simpa using h⟩
        | succ j =>
          rcases ih 0 vs j v (by simpa using h) with ⟨h1, h2, h3⟩ | ⟨h1, h2⟩
          · left; exact ⟨by omega, by simp at *; omega, by simpa using h3⟩
          · right; exact ⟨.inr (by simp at *; omega), by simpa using h2⟩
    | succ n =>
      simp only [lsplice] at h
      cases j with
      | zero => right; exact ⟨.inl (by omega), by simpa using h⟩
      | succ j =>
        rcases ih n vs j v (by simpa using h) with ⟨h1, h2, h3⟩ | ⟨h1, h2⟩
        · left; exact ⟨by omega, by omega, by rw [show j + 1 - (n + 1) = j - n by omega]; exact h3⟩
        · right; exact ⟨by omega, by simpa using h2⟩

section
variable {γ : Gam} {B : Nat} {H : AHeap} {w : World} {C : Cx} {P : Program}

theorem setCell_setRow' (w : World) (g o : Nat) (v : Value) {cur : Array Value} {t : TypeId} {fz : Nat × Nat} (h : w.heap[g]? = some (.cells cur t fz)) :
    w.setCell ⟨g, o, none⟩ v = w.setRow g (cur.setIfInBounds o v) := by
  unfold World.setCell World.setRow
  congr 1
  apply Array.ext_getElem?
  intro i
  simp only [Array.getElem?_modify]
  by_cases hi : g = i
  · subst hi; simp [h]
  · simp [hi]

theorem run_storeCells_gen {g o : Nat} {t : TypeId} {fz : Nat × Nat} : ∀ (vs : List Value) (i : Nat) (cur : Array Value) (w : World), w.heap[g]? = some (.cells cur t fz) →
    (∀ j, j < cur.size → fz.1 ≤ j → fz.2 ≤ j) → o + i + vs.length ≤ cur.size → (∀ v ∈ vs, v.oneCell' = true) →
    ∃ cur' : Array Value, (storeCells ⟨g, o, none⟩ vs i).run P w = .ok () (w.setRow g cur') ∧ cur'.size = cur.size ∧ (∀ (j : Nat) v, vs[j]? = some v → cur'[o + i + j]? = some v) ∧ ∀ (j : Nat), j < o + i ∨ o + i + vs.length ≤ j → cur'[j]? = cur[j]?
  | [], i, cur, w, hg, _, _, _ => ⟨cur, by simp only [storeCells]; rw [setRow_self w g cur t fz hg]; rfl, rfl, by simp, fun _ _ => rfl⟩
  | v :: vs, i, cur, w, hg, hfz, hb, h1 => by
    have hi : o + i < cur.size := by simp at hb; omega
    have hfr : w.frozen? ⟨g, o + i, none⟩ = false := by
      unfold World.frozen?
      simp only [hg, Bool.and_eq_false_iff, decide_eq_false_iff_not]
      by_cases h : fz.1 ≤ o + i
      · right; have := hfz _ hi h; simp; omega
      · left; exact h
    have hce : w.cell? ⟨g, o + i, none⟩ = some cur[o + i] := by rw [cell_at hg]; simp [hi]
    have hw1 : (w.setRow g (cur.setIfInBounds (o + i) v)).heap[g]? = some (.cells (cur.setIfInBounds (o + i) v) t fz) := setRow_heap w g cur _ t fz hg
    obtain ⟨cur', h2, h3, h4, h5⟩ := run_storeCells_gen (o := o) vs (i + 1) (cur.setIfInBounds (o + i) v) (w.setRow g (cur.setIfInBounds (o + i) v)) hw1 (by simpa using hfz) (by simp at *; omega) (fun u hu => h1 u (.tail _ hu))
    refine ⟨cur', ?_, by simpa using h3, fun j u hj => ?_, fun j hj => ?_⟩
    · simp only [storeCells, Sem.run_bind, add_lit', run_store P w _ v _ (h1 v (.head _)), hce, hfr, Bool.false_eq_true, if_false, Result.andThen_ok, setCell_setRow' w g (o + i) v hg, h2, setRow_setRow]
    · cases j with
      | zero =>
        simp at hj; subst hj
        rw [Nat.add_zero, h5 _ (.inl (by omega))]
        simp [hi]
      | succ j =>
        have := h4 j u (by simpa using hj)
        rwa [show o + (i + 1) + j = o + i + (j + 1) by omega] at this
    · rw [h5 j (by simp at hj; omega), Array.getElem?_setIfInBounds, if_neg (by simp at hj; omega)]

/-- The row of an object is written. -/
theorem Rel.write (r : Rel γ B H w) {x off : Nat} {g : G} {c vs vs' : List Value} {e : TypeId} {wr : Nat} (hx : γ x = some g) (ho : H.get x = some (.cells c e wr)) (hwr : 0 < wr) (hvs : VsRel γ vs vs')
    (hone : ∀ v ∈ vs', v.oneCell' = true) (hb : off + vs.length ≤ c.length) :
    GoesU γ B H w (H.put x (.cells (lsplice off vs c) e wr)) ((storeCells ⟨g.b, g.o + off, none⟩ vs').run P w) := by
  obtain ⟨cur, fz, hh, h1, h2, h3, h4, h5⟩ := r.cells hx ho hwr
  have hl := hvs.length
  obtain ⟨cur', k1, k2, k3, k4⟩ := run_storeCells_gen (P := P) vs' 0 cur w hh (h1 hwr) (o := g.o + off) (by omega) hone
  have hrow := setRow_heap w g.b cur cur' e fz hh
  refine ⟨w.setRow g.b cur', k1, r.upd hx ho rfl (by simpa [AObj.own] using hwr) (setRow_size _ _ _) (fun k hk => setRow_other w g.b k cur' hk) ?_, Ext.upd hx _, ?_⟩
  · refine ⟨cur', fz, .inl hrow, by rw [k2]; exact h1, h2, by rw [k2]; exact h3, by rw [lsplice_length]; exact h4, fun i v hi => ?_⟩
    rcases lsplice_get _ _ _ _ _ hi with ⟨a1, a2, a3⟩ | ⟨a1, a2⟩
    · obtain ⟨v', b1, b2⟩ := hvs.get a3
      have := k3 _ _ b1
      rw [show g.o + off + 0 + (i - off) = g.o + i by omega] at this
      exact .inr ⟨v', this, b2⟩
    · rcases h5 i v a2 with b1 | ⟨v', b1, b2⟩
      · exact .inl b1
      · exact .inr ⟨v', by rw [k4 _ (by omega)]; exact b1, b2⟩
  · refine ⟨setRow_os _ _ _, setRow_tape _ _ _, setRow_output _ _ _, Nat.le_of_eq (setRow_size _ _ _).symm, fun k hk => setRow_other w g.b k cur' ?_⟩
    have := r.own x g _ hx ho (by simpa [AObj.own] using hwr)
    omega

theorem oneCell_rel {v v' : Value} (h : VRel γ v v') : v.oneCell' = v'.oneCell' := by cases h <;> rfl
theorem oneCell_all {l l' : List Value} (h : VsRel γ l l') (ha : l.all Value.oneCell' = true) : ∀ v ∈ l', v.oneCell' = true := by
  induction l generalizing l' with
  | nil => cases h; intro v hv; cases hv
  | cons u l ih =>
    cases h with
    | cons h hl =>
      simp only [List.all_cons, Bool.and_eq_true] at ha
      intro v hv
      cases hv with
      | head => rw [← oneCell_rel h]; exact ha.1
      | tail _ hv => exact ih hl ha.2 v hv

/-- Values are laid over an object's cells. -/
def awrite (H : AHeap) (x off : Nat) (vs : List Value) : Option AHeap := match H.get x with
  | some (.cells c e wr) => bif Nat.blt 0 wr && Nat.ble (off + vs.length) c.length && vs.all Value.oneCell' then
      rebuild (lsplice off vs c) (fun c' => some (H.put x (.cells c' e wr))) else none
  | _ => none
theorem awrite_sound (r : Rel γ B H w) {x off : Nat} {g : G} {vs vs' : List Value} {H' : AHeap} (hx : γ x = some g) (hvs : VsRel γ vs vs') (h : awrite H x off vs = some H') :
    GoesU γ B H w H' ((storeCells ⟨g.b, g.o + off, none⟩ vs').run P w) := by
  unfold awrite at h
  split at h
  · rename_i c e wr ho
    cases hc : (Nat.blt 0 wr && Nat.ble (off + vs.length) c.length && vs.all Value.oneCell') with
    | false => rw [hc] at h; cases h
    | true =>
      rw [hc] at h
      simp only [cond_true, rebuild_eq] at h
      cases h
      simp only [Bool.and_eq_true, Nat.blt_eq, Nat.ble_eq] at hc
      exact r.write hx ho hc.1.1 hvs (oneCell_all hvs hc.2) hc.1.2
  · cases h

def astore (C : Cx) (H : AHeap) (t : TypeId) (a v : Value) : Option AHeap := match a, C.size t with
  | .pointer (some ⟨x, off, none⟩), some n => bif n.beq (vcl v).length then awrite H x off (vcl v) else none
  | _, _ => none
theorem astore_sound (hF : C.Fits P) (r : Rel γ B H w) {t : TypeId} {a a' v v' : Value} {H' : AHeap} (ha : VRel γ a a') (hv : VRel γ v v') (h : astore C H t a v = some H') :
    GoesU γ B H w H' ((Instr.storeAt t a' v').run P w) := by
  unfold astore at h
  split at h
  · rename_i x off n hs
    cases hb : n.beq (vcl v).length with
    | false => rw [hb] at h; cases h
    | true =>
      rw [hb] at h
      have hn := Nat.eq_of_beq_eq_true hb
      cases ha with
      | @ptr _ _ g hx =>
        have hc := cells_rel hv
        obtain ⟨w', h1, h2⟩ := awrite_sound (P := P) r hx hc h
        have hl := hc.length
        refine ⟨w', ?_, h2⟩
        have hsz : v'.cells.size = n := by rw [hn, hl]; simp
        simp only [Instr.storeAt, Instr.sureAddr, Sem.run_bind, Sem.run_pure, Result.andThen_ok, storeVar, run_size hF hs, hsz, ne_eq, not_true_eq_false, if_false, h1]
  · cases h
end
end
end Go.AM

/- The abstract machine, part 11: slices that are made and grow; strings and bytes. -/
namespace Go.AM
open Go Go.RowKit
noncomputable section

section
variable {γ : Gam} {B : Nat} {H : AHeap} {w : World} {C : Cx} {P : Program}

/-- So many cells of zero values. -/
def zrow (z : Value) (n : Nat) : Array Value := (Array.range n).map (z.cells[· % z.cells.size]!)

theorem gndL_mem : ∀ {l : List Value}, gndL l = true → ∀ v ∈ l, gnd v = true
  | [], _, v, hv => by cases hv
  | u :: l, h, v, hv => by
    simp only [gndL, Bool.and_eq_true] at h
    cases hv with
    | head => exact h.1
    | tail _ hv => exact gndL_mem h.2 v hv
theorem gnd_cells {z : Value} (h : gnd z = true) : gndL z.cells.toList = true := by
  cases z <;> first | (simp [Value.cells, gndL, h]; done) | skip
  rename_i a; obtain ⟨l⟩ := a
  simpa [gnd, gndA, Value.cells] using h
theorem gndL_of : ∀ {l : List Value}, (∀ v ∈ l, gnd v = true) → gndL l = true
  | [], _ => rfl
  | v :: l, h => by simp only [gndL, Bool.and_eq_true]; exact ⟨h v (.head _), gndL_of fun u hu => h u (.tail _ hu)⟩
theorem zrow_gnd {z : Value} (h : gnd z = true) (n : Nat) : gndL (zrow z n).toList = true := by
  refine gndL_of fun v hv => ?_
  simp only [zrow, Array.toList_map, List.mem_map] at hv
  obtain ⟨i, _, rfl⟩ := hv
  by_cases hi : i % z.cells.size < z.cells.size
  · rw [getElem!_pos z.cells _ hi]
    exact gndL_mem (gnd_cells h) _ (by simp)
  · rw [getElem!_neg z.cells _ hi]; rfl

/-! ### A slice's literal -/
def abuildSlice (C : Cx) (H : AHeap) (nid : Nat) (t : TypeId) (len : Nat) (ps : List (Nat × Value)) : Option (Value × AHeap) := match C.und t with
  | some (.slice e) => (match C.size e, gzero C e with
    | some es, some z => bif Nat.blt 0 es && Nat.blt es 65536 && Nat.ble (len * es) 16777216 && Nat.blt 0 len then
        (match Instr.fill (fun i => some (i * es, es)) (zrow z (len * es)) ps with
        | some ⟨cs⟩ => bif cs.length.beq (len * es) then rebuild cs (fun cs => some (.slice (some ⟨nid, 0, none⟩) len (mkcc es 0 len), anew H nid e cs)) else none
        | none => none) else bif Nat.blt 0 es && Nat.blt es 65536 && len.beq 0 && ps.isEmpty then some (.slice (some ⟨nid, 0, none⟩) 0 (mkcc es 0 0), anew H nid e []) else none
    | _, _ => none)
  | _ => none
theorem abuildSlice_sound (hF : C.Fits P) (r : Rel γ B H w) {nid : Nat} (hn : γ nid = none) {t : TypeId} {len : Nat} {ps ps' : List (Nat × Value)} {x : Value × AHeap} (hp : PsRel γ ps ps')
    (h : abuildSlice C H nid t len ps = some x) : Goes nid γ B H w x.1 x.2 ((Instr.buildSlice t len ps'.toArray).run P w) := by
  unfold abuildSlice at h
  split at h
  · rename_i e hu
    split at h
    · rename_i es z hs hz
      obtain ⟨hz1, hz2⟩ := gzero_sound (w := w) hF hz
      cases hc : (Nat.blt 0 es && Nat.blt es 65536 && Nat.ble (len * es) 16777216 && Nat.blt 0 len) with
      | true =>
        rw [hc] at h
        simp only [cond_true] at h
        simp only [Bool.and_eq_true, Nat.blt_eq, Nat.ble_eq] at hc
        obtain ⟨⟨⟨c1, c2⟩, c3⟩, c4⟩ := hc
        have hle : 0 < len * es := Nat.mul_pos c4 c1
        split at h
        · rename_i cs hf
          cases hb : cs.length.beq (len * es) with
          | false => rw [hb] at h; cases h
          | true =>
            rw [hb] at h
            simp only [cond_true, rebuild_eq] at h
            cases h
            have hlen := Nat.eq_of_beq_eq_true hb
            obtain ⟨r', h3, h4⟩ := fill_rel hp (gndL_rel (γ := γ) _ (zrow_gnd hz2 (len * es))) hf
            have hl := h4.length
            have hrel := r.newRow hn (e := e) (c := cs) (cur := r') (by simp at hl; omega) (by have := CellsRel.of_vs h4; simpa using this)
            refine ⟨_, .slice (some ⟨w.heap.size, 0, none⟩) len len, w.alloc (.cells r' e), ?_, ?_, hrel, ExtX.put hn _ _, below_alloc r _⟩
            · have e1 : ¬ (16777216 < len * es) := by omega
              have e2 : ¬ len * es = 0 := by omega
              simp only [Instr.buildSlice, Sem.run_bind, run_und hF hu, Result.andThen_ok, run_size hF hs, show (2 : Nat) ^ 24 = 16777216 from rfl, gt_iff_lt, e1, if_false, e2, hz1, Sem.run_pure]
              have h3' : Instr.fill (fun i => some (i * es, es)) ((Array.range (len * es)).map (z.cells[· % z.cells.size]!)) ps' = some r' := h3
              simp [h3', newRow]
            · have hg := Gam.put_same γ nid ⟨w.heap.size, 0, r'.size⟩
              have := VRel.sliceE (γ := γ.put nid ⟨w.heap.size, 0, r'.size⟩) (off := 0) (len := len) (es := es) (k := len) hg c1 c2 (Nat.le_refl _) (by simp at hl ⊢; omega)
              simpa using this
        · cases h
      | false =>
        rw [hc] at h
        simp only [cond_false] at h
        cases hc2 : (Nat.blt 0 es && Nat.blt es 65536 && len.beq 0 && ps.isEmpty) with
        | false => rw [hc2] at h; cases h
        | true =>
          rw [hc2] at h
          cases h
          simp only [Bool.and_eq_true, Nat.blt_eq] at hc2
          obtain ⟨⟨⟨c1, c2⟩, c3⟩, c4⟩ := hc2
          have hl0 : len = 0 := Nat.eq_of_beq_eq_true c3
          subst hl0
          have hrel := r.newRow hn (e := e) (c := []) (cur := #[]) (by simp) (fun i v hi => by simp at hi)
          refine ⟨_, .slice (some ⟨w.heap.size, 0, none⟩) 0 0, w.alloc (.cells #[] e), ?_, ?_, hrel, ExtX.put hn _ _, below_alloc r _⟩
          · have hps : ps' = [] := by
              cases hp with
              | nil => rfl
              | cons => simp at c4
            subst hps
            have e0 : Array.range 0 = #[] := by apply Array.eq_empty_of_size_eq_zero; simp
            simp [Instr.buildSlice, run_und hF hu, run_size hF hs, Instr.fill, newRow, e0]
          · have hg := Gam.put_same γ nid ⟨w.heap.size, 0, 0⟩
            have := VRel.sliceE (γ := γ.put nid ⟨w.heap.size, 0, 0⟩) (off := 0) (len := 0) (es := es) (k := 0) hg c1 c2 (Nat.le_refl _) (by simp)
            simpa using this
    · cases h
  · cases h

/-! ### make -/
def asN : Value → Option Nat
  | .int _ (.ofNat n) => some n
  | _ => none
theorem asN_sound {v v' : Value} {n : Nat} (hv : VRel γ v v') (h : asN v = some n) : ∃ k, v' = .int k (n : Int) := by
  cases hv <;> simp [asN] at h
  rename_i k i
  cases i with
  | ofNat m => simp at h; subst h; exact ⟨k, rfl⟩
  | negSucc m => simp at h
def amakeSlice (C : Cx) (H : AHeap) (nid : Nat) (t : TypeId) (l c : Value) : Option (Value × AHeap) := match C.und t, asN l, asN c with
  | some (.slice e), some l, some c => (match C.info e with
    | some i => (match i.zero with
      | some z => bif gnd z && Nat.blt 0 i.size && Nat.blt i.size 65536 && Nat.ble l c && Nat.ble (i.bytes * c) 281474976710656 && Nat.ble c 9223372036854775807 then
          rebuild (zrow z (c * i.size)).toList (fun cs => some (.slice (some ⟨nid, 0, none⟩) l (mkcc i.size 0 c), anew H nid e cs)) else none
      | none => none)
    | none => none)
  | _, _, _ => none
theorem amakeSlice_sound (hF : C.Fits P) (r : Rel γ B H w) {nid : Nat} (hn : γ nid = none) {t : TypeId} {l c l' c' : Value} {x : Value × AHeap} (hl : VRel γ l l') (hc : VRel γ c c')
    (h : amakeSlice C H nid t l c = some x) : Goes nid γ B H w x.1 x.2 ((Instr.makeSlice t l' c').run P w) := by
  unfold amakeSlice at h
  split at h
  · rename_i e ln cn hu hln hcn
    obtain ⟨kl, rfl⟩ := asN_sound hl hln
    obtain ⟨kc, rfl⟩ := asN_sound hc hcn
    split at h
    · rename_i i hi
      split at h
      · rename_i z hz
        cases hcc : (gnd z && Nat.blt 0 i.size && Nat.blt i.size 65536 && Nat.ble ln cn && Nat.ble (i.bytes * cn) 281474976710656 && Nat.ble cn 9223372036854775807) with
        | false => rw [hcc] at h; cases h
        | true =>
          rw [hcc] at h
          simp only [cond_true, rebuild_eq] at h
          cases h
          simp only [Bool.and_eq_true, Nat.blt_eq, Nat.ble_eq] at hcc
          obtain ⟨⟨⟨⟨⟨c0, c1⟩, c2⟩, c3⟩, c4⟩, c5⟩ := hcc
          have hund : P.underlying t = some (.slice e) := by rw [← hF.und]; exact hu
          have hinf : P.info? e = some i := by rw [← hF.info]; exact hi
          have hrun := run_make (P := P) w t e i z hund hinf hz kl kc (ln : Int) (cn : Int) (by omega) (by omega) (by rw [← Int.natCast_mul]; omega) (by omega)
          have hzr := zrow_gnd c0 (cn * i.size)
          have hrel := r.newRow hn (e := e) (c := (zrow z (cn * i.size)).toList) (cur := zrow z (cn * i.size)) (by simp) (by have := CellsRel.of_vs (gndL_rel (γ := γ) _ hzr); simpa using this)
          refine ⟨_, .slice (some ⟨w.heap.size, 0, none⟩) ln cn, _, ?_, ?_, hrel, ExtX.put hn _ _, below_alloc r _⟩
          · simpa [madeCells, zrow] using hrun
          · have hg := Gam.put_same γ nid ⟨w.heap.size, 0, (zrow z (cn * i.size)).size⟩
            have := VRel.sliceE (γ := γ.put nid ⟨w.heap.size, 0, (zrow z (cn * i.size)).size⟩) (off := 0) (len := ln) (es := i.size) (k := cn) hg c1 c2 c3 (by simp [zrow])
            simpa using this
      · cases h
    · cases h
  · cases h

theorem amakeMap_sound (r : Rel γ B H w) {nid : Nat} (hn : γ nid = none) {t : TypeId} : Goes nid γ B H w (.map (some nid)) (H.put nid (.map [] 0)) ((Instr.makeMap t none).run P w) := by
  have hrel := r.alloc hn (.map #[] 0) 0 (o := .map [] 0) ⟨#[], rfl, .nil⟩
  exact ⟨_, .map (some w.heap.size), _, by simp [Instr.makeMap] <;> rfl, .map (g := ⟨w.heap.size, 0, 0⟩) (Gam.put_same _ _ _), hrel, ExtX.put hn _ _, below_alloc r _⟩
end
end
end Go.AM

/- The abstract machine, part 12: append, copy. -/
namespace Go.AM
open Go Go.RowKit
noncomputable section

def srcD : TypeDesc → Bool
  | .slice _ => true
  | .string => true
  | _ => false
theorem srcD_cases {d : TypeDesc} (h : srcD d = true) : (∃ e, d = .slice e) ∨ d = .string := by
  cases d <;> simp [srcD] at h ⊢

section
variable {γ : Gam} {B : Nat} {H : AHeap} {w : World} {C : Cx} {P : Program}

theorem run_append_room' (t t2 ty e : TypeId) (d2 : TypeDesc) (i : TypeInfo) (ht : P.underlying t = some (.slice e)) (ht2 : P.underlying t2 = some d2) (hd : srcD d2 = true) (hi : P.info? e = some i)
    (base : Option Addr) (sLen sCap n : Nat) (x : Value) (news : Array Value) (hlen : (Builtin.lenOf x).run P w = .ok n w) (hnews : (Builtin.firstCells i.size n x).run P w = .ok news w) (hroom : sLen + n ≤ sCap) {w' : World}
    (hst : ∀ a, base = some a → (storeCells (a.add (sLen * i.size)) news.toList).run P w = .ok () w') (hno : base = none → w' = w) :
    (Builtin.append_ #[t, t2] ty #[.slice base sLen sCap, x]).run P w = .ok (.slice base (sLen + n) sCap) w' := by
  rcases srcD_cases hd with ⟨e2, rfl⟩ | rfl <;> cases base with
  | none =>
    have := hno rfl; subst this
    simp [Builtin.append_, run_underlying ht, run_underlying ht2, sizeOf, typeInfo, hi, hlen, hroom, hnews]
  | some a =>
    simp [Builtin.append_, run_underlying ht, run_underlying ht2, sizeOf, typeInfo, hi, hlen, hroom, hnews, hst a rfl]

theorem run_append_grow' (t t2 ty e : TypeId) (d2 : TypeDesc) (i : TypeInfo) (z : Value) (ht : P.underlying t = some (.slice e)) (ht2 : P.underlying t2 = some d2) (hd : srcD d2 = true) (hi : P.info? e = some i) (hz : i.zero = some z)
    (base : Option Addr) (sLen sCap n : Nat) (x : Value) (old news : Array Value) (hlen : (Builtin.lenOf x).run P w = .ok n w) (hnews : (Builtin.firstCells i.size n x).run P w.drew = .ok news w.drew)
    (hold : (Builtin.firstCells i.size sLen (.slice base sLen sCap)).run P w.drew = .ok old w.drew) (hroom : sCap < sLen + n) (h63 : sLen + n ≤ 9223372036854775807) (hby : (sLen + n) * i.bytes ≤ 140737488355328) :
    (Builtin.append_ #[t, t2] ty #[.slice base sLen sCap, x]).run P w = .ok (.slice (some ⟨w.heap.size, 0, none⟩) (sLen + n) (grownCap w (sLen + n) sCap e))
      (w.drew.alloc (.cells (old ++ news ++ Builtin.zeroCells z.cells (grownCap w (sLen + n) sCap e - (sLen + n))) e)) := by
  have hn : ¬ (sLen + n ≤ sCap) := by omega
  have h63' : ¬ (9223372036854775807 < (sLen : Int) + (n : Int)) := by omega
  have h48' : ¬ (281474976710656 < Builtin.nextslicecap (sLen + n) sCap * i.bytes) := by have := growslice_fits (need := sLen + n) (old := sCap) (bytes := i.bytes) hroom hby; omega
  rcases srcD_cases hd with ⟨e2, rfl⟩ | rfl <;>
    simp [Builtin.append_, run_underlying ht, run_underlying ht2, sizeOf, typeInfo, zeroValue, hi, hz, hlen, hn, h63', h48', Question.forced, hnews, hold, newRow, grownCap]

/-! ### What is appended -/
def byteVals (s : ByteArray) : List Value := s.data.toList.map fun b => .int .u8 b.toNat
def anews (H : AHeap) (es : Nat) : Value → Option (Nat × List Value)
  | .slice none 0 0 => some (0, [])
  | .slice (some ⟨y, oy, none⟩) n cc => bif (ccKind cc).beq 2 then some (0, []) else (match acells H y oy (n * es) with
    | some l => some (n, l)
    | none => none)
  | .string b => bif es.beq 1 then some (b.size, byteVals b) else none
  | _ => none

theorem gnd_bytes (s : ByteArray) : gndL (byteVals s) = true := gndL_of fun v hv => by
  simp only [byteVals, List.mem_map] at hv
  obtain ⟨b, _, rfl⟩ := hv
  rfl

theorem anews_sound (r : Rel γ B H w) {es n : Nat} {x x' : Value} {l : List Value} (hx : VRel γ x x') (h : anews H es x = some (n, l)) :
    ∃ l', VsRel γ l l' ∧ l.length = n * es ∧ ∀ w', w'.heap = w.heap → (Builtin.lenOf x').run P w' = .ok n w' ∧ (Builtin.firstCells es n x').run P w' = .ok l'.toArray w' := by
  unfold anews at h
  split at h
  · cases h; cases hx
    exact ⟨[], .nil, by simp, fun w' _ => ⟨by simp [Builtin.lenOf], by simp [Builtin.firstCells]⟩⟩
  · rename_i y oy n0 cc
    cases hk : (ccKind cc).beq 2 with
    | true =>
      rw [hk] at h
      cases h
      have hk := Nat.eq_of_beq_eq_true hk
      cases hx with
      | sliceE hx h1 h2 hl hk' => rw [ccKind_mk h2 (by omega)] at hk; cases hk
      | sliceI hx h1 h2 hl hk' => rw [ccKind_mk h2 (by omega)] at hk; cases hk
      | sliceT hx h1 h2 hk' =>
        exact ⟨[], .nil, by simp, fun w' _ => ⟨by simp [Builtin.lenOf], by simp [Builtin.firstCells, loadCells, loadCellsFrom]⟩⟩
    | false =>
      rw [hk] at h
      simp only [cond_false] at h
      split at h
      · rename_i l0 hc
        cases h
        have fin : ∀ (g : G), γ y = some g → ∀ cap, ∃ l', VsRel γ l l' ∧ l.length = n * es ∧ ∀ w', w'.heap = w.heap → (Builtin.lenOf (.slice (some ⟨g.b, g.o + oy, none⟩) n cap)).run P w' = .ok n w' ∧ (Builtin.firstCells es n (.slice (some ⟨g.b, g.o + oy, none⟩) n cap)).run P w' = .ok l'.toArray w' := fun g hg cap => by
          obtain ⟨h1, l', h2, _⟩ := acells_spec r hg hc
          refine ⟨l', h2, h1, fun w' hw => ⟨by simp [Builtin.lenOf], ?_⟩⟩
          obtain ⟨l'', h4, h5⟩ := run_acells (P := P) (r.of_heap hw) hg hc
          rw [h2.uniq h4]
          simpa [Builtin.firstCells] using h5
        cases hx with
        | sliceE hx h1 h2 hl hk' => exact fin _ hx _
        | sliceI hx h1 h2 hl hk' => exact fin _ hx _
        | sliceT hx h1 h2 hk' => rw [ccKind_mk h2 (by omega)] at hk; cases hk
      · cases h
  · rename_i b
    cases hb : es.beq 1 with
    | false => rw [hb] at h; cases h
    | true =>
      rw [hb] at h
      cases h
      have := Nat.eq_of_beq_eq_true hb
      subst this
      cases hx
      refine ⟨_, gndL_rel _ (gnd_bytes b), by simp [byteVals] <;> rfl, fun w' _ => ⟨by simp [Builtin.lenOf], ?_⟩⟩
      simp only [Builtin.firstCells, Sem.run_pure, byteVals]
      congr 1
      have : b.extract 0 b.size = b := by simp
      rw [this]
      apply Array.ext'
      simp
  · cases h

/-- append, its second part evaluated. -/
def agrow (H : AHeap) (nid : Nat) (e es bytes : Nat) (s : Value) (n : Nat) (news : List Value) : Option (Value × AHeap) := match s with
  | .slice none 0 0 => (match n with
    | 0 => some (.slice none 0 0, H)
    | n + 1 => bif Nat.ble ((n + 1) * bytes) 140737488355328 && Nat.ble (n + 1) 9223372036854775807 then rebuild news (fun news => some (.slice (some ⟨nid, 0, none⟩) (n + 1) (mkcc es 1 (n + 1)), anew H nid e news)) else none)
  | .slice (some ⟨x, off, none⟩) len cc => (match n with
    | 0 => some (.slice (some ⟨x, off, none⟩) len cc, H)
    | n + 1 => bif (ccEs cc).beq es && Nat.ble ((len + (n + 1)) * bytes) 140737488355328 && Nat.ble (len + (n + 1)) 9223372036854775807 then
        (bif Nat.ble (len + (n + 1)) (ccK cc) && Nat.blt (ccKind cc) 2 then (match awrite H x (off + len * es) news with
          | some H' => some (.slice (some ⟨x, off, none⟩) (len + (n + 1)) cc, H')
          | none => none)
        else match ccKind cc with
          | 0 => (match acells H x off (len * es) with
            | some old => rebuild (old ++ news) (fun l => some (.slice (some ⟨nid, 0, none⟩) (len + (n + 1)) (mkcc es 1 (len + (n + 1))), anew H nid e l))
            | none => none)
          | 1 => (match H.get x, acells H x off (len * es) with
            | some (.cells _ e' wr), some old => bif e'.beq e && Nat.blt 0 wr && news.all Value.oneCell' then
                rebuild (old ++ news) (fun l => some (.slice (some ⟨nid, 0, none⟩) (len + (n + 1)) (mkcc es 1 (len + (n + 1))), (H.put x .dead).put nid (.cells l e 1))) else none
            | _, _ => none)
          | _ => none)
      else none)
  | _ => none
def aappend (C : Cx) (H : AHeap) (nid : Nat) (t t2 : TypeId) (s x : Value) : Option (Value × AHeap) := match C.und t, C.und t2 with
  | some (.slice e), some d2 => bif srcD d2 then (match C.info e with
    | some i => (match i.zero with
      | some z => bif Nat.blt 0 i.size && Nat.blt i.size 65536 && (vcl z).length.beq i.size then (match anews H i.size x with
        | some (n, news) => agrow H nid e i.size i.bytes s n news
        | none => none) else none
      | none => none)
    | none => none) else none
  | _, _ => none

theorem Rel.kill (r : Rel γ B H w) {x : Nat} {g : G} (hx : γ x = some g) : Rel γ B (H.put x .dead) w := by
  refine ⟨fun y gy hy => ?_, r.lt, fun y gy oy hy h => ?_, fun y gy oy hy h hw => ?_, fun y z gy gz oy oz hy hz h1 h2 a1 a2 hne => ?_, r.base⟩
  · rw [AHeap.put_next]; have := r.dom y gy hy; omega
  · rw [AHeap.get_put] at h
    by_cases e : y = x
    · subst e; simp at h; subst h; trivial
    · simp [e] at h; exact r.obj y gy oy hy h
  · rw [AHeap.get_put] at h
    by_cases e : y = x
    · subst e; simp at h; subst h; cases hw
    · simp [e] at h; exact r.own y gy oy hy h hw
  · rw [AHeap.get_put] at h1 h2
    by_cases e1 : y = x
    · subst e1; simp at h1; subst h1; cases a1
    · by_cases e2 : z = x
      · subst e2; simp at h2; subst h2; cases a2
      · simp [e1] at h1; simp [e2] at h2; exact r.inj y z gy gz oy oz hy hz h1 h2 a1 a2 hne

theorem grow_size {es need cap : Nat} {z : Value} {l : List Value} (hz : (vcl z).length = es) (hl : l.length = need * es) (hc : need ≤ cap) : (l.toArray ++ Builtin.zeroCells z.cells (cap - need)).size = cap * es := by
  have h1 : z.cells.size = es := by
    rw [← hz]
    cases z <;> rfl
  simp only [Array.size_append, List.size_toArray, size_zeroCells, h1, hl, ← Nat.add_mul, Nat.add_sub_cancel' hc]

/-- A row that has grown: a new block. -/
theorem Rel.grown (r : Rel γ B H w) {nid : Nat} (hn : γ nid = none) {e es need cap wr : Nat} {z : Value} {l l' : List Value} (hvs : VsRel γ l l') (hz : (vcl z).length = es) (hl : l.length = need * es) (hc : need ≤ cap) (h1 : 0 < es) (h2 : es < 65536) :
    let cur := l'.toArray ++ Builtin.zeroCells z.cells (cap - need)
    let γ' := γ.put nid ⟨w.heap.size, 0, cur.size⟩
    VRel γ' (.slice (some ⟨nid, 0, none⟩) need (mkcc es 1 need)) (.slice (some ⟨w.heap.size, 0, none⟩) need cap) ∧ Rel γ' B (H.put nid (.cells l e wr)) (w.drew.alloc (.cells cur e)) ∧ Below B w (w.drew.alloc (.cells cur e)) := by
  intro cur γ'
  have hl' : l'.length = need * es := by rw [← hvs.length]; exact hl
  have hsz : cur.size = cap * es := grow_size hz hl' hc
  have hle : need * es ≤ cap * es := Nat.mul_le_mul_right _ hc
  refine ⟨?_, ?_, ?_⟩
  · have hg : γ' nid = some ⟨w.heap.size, 0, cur.size⟩ := Gam.put_same _ _ _
    have := VRel.sliceI (γ := γ') (off := 0) (len := need) (es := es) (k := need) hg h1 h2 (Nat.le_refl _) (by simp only [hsz]; omega)
    simpa only [Nat.add_zero, Nat.sub_zero, hsz, Nat.mul_div_cancel _ h1] using this
  · have hr := r.drew
    exact hr.alloc hn (.cells cur e) cur.size ⟨cur, (0, 0), .inl rfl, fun _ _ _ _ => by simp, fun _ => ⟨rfl, rfl⟩, by simp, by rw [hsz, hl]; exact hle, (CellsRel.of_vs_append hvs _).mono (Gam.le_put hn)⟩
  · exact ((Below.refl B w).drew).alloc r.base _

set_option maxHeartbeats 2000000 in
theorem agrow_sound (r : Rel γ B H w) {nid : Nat} (hn : γ nid = none) {t t2 ty e n : Nat} {d2 : TypeDesc} {i : TypeInfo} {z : Value} (ht : P.underlying t = some (.slice e)) (ht2 : P.underlying t2 = some d2) (hd : srcD d2 = true)
    (hi : P.info? e = some i) (hz : i.zero = some z) (h1 : 0 < i.size) (h2 : i.size < 65536) (hzs : (vcl z).length = i.size) {s s' x' : Value} {news news' : List Value} (hs : VRel γ s s') (hnews : VsRel γ news news') (hl : news.length = n * i.size)
    (hrun : ∀ w', w'.heap = w.heap → (Builtin.lenOf x').run P w' = .ok n w' ∧ (Builtin.firstCells i.size n x').run P w' = .ok news'.toArray w') {xr : Value × AHeap} (h : agrow H nid e i.size i.bytes s n news = some xr) :
    Goes nid γ B H w xr.1 xr.2 ((Builtin.append_ #[t, t2] ty #[s', x']).run P w) := by
  obtain ⟨hlen, hfc⟩ := hrun w rfl
  obtain ⟨_hld, hfcd⟩ := hrun w.drew rfl
  have hl' : news'.length = n * i.size := by rw [← hnews.length]; exact hl
  unfold agrow at h
  split at h
  · cases hs
    split at h
    · cases h
      have := run_append_room' t t2 ty e d2 i ht ht2 hd hi none 0 0 0 x' news'.toArray hlen hfc (Nat.le_refl _) (w' := w) (fun a ha => by cases ha) (fun _ => rfl)
      exact Goes.quiet r this .sliceNil
    · rename_i n0
      cases hc : (Nat.ble ((n0 + 1) * i.bytes) 140737488355328 && Nat.ble (n0 + 1) 9223372036854775807) with
      | false => rw [hc] at h; cases h
      | true =>
        rw [hc] at h
        simp only [cond_true, rebuild_eq] at h
        cases h
        simp only [Bool.and_eq_true, Nat.ble_eq] at hc
        have hg := run_append_grow' t t2 ty e d2 i z ht ht2 hd hi hz none 0 0 (n0 + 1) x' #[] news'.toArray hlen hfcd (run_firstCells_none _ _ _ _ _) (by omega) (by omega) (by rw [Nat.zero_add]; exact hc.1)
        simp only [Nat.zero_add, Array.empty_append] at hg
        obtain ⟨k1, k2, k3⟩ := r.grown hn (e := e) (wr := 2) (need := n0 + 1) (cap := grownCap w (n0 + 1) 0 e) hnews hzs hl (grownCap_ge _ _ _ _) h1 h2
        exact ⟨_, _, _, hg, k1, k2, ExtX.put hn _ _, k3⟩
  · rename_i x off len cc
    split at h
    · -- nothing is appended
      cases h
      have e0 : news' = [] := List.eq_nil_of_length_eq_zero (by rw [hl']; omega)
      have fin : ∀ a cap, len ≤ cap → (Builtin.append_ #[t, t2] ty #[.slice (some a) len cap, x']).run P w = .ok (.slice (some a) len cap) w := fun a cap hcap => by
        have := run_append_room' t t2 ty e d2 i ht ht2 hd hi (some a) len cap 0 x' news'.toArray hlen hfc (by omega) (w' := w) (fun b _ => by subst e0; rfl) (fun h => by cases h)
        simpa using this
      cases hs with
      | sliceE hx p1 p2 pl pk => exact Goes.quiet r (fin _ _ pl) (.sliceE hx p1 p2 pl pk)
      | @sliceI _ _ _ es k g hx p1 p2 pl pk =>
        have : k ≤ (g.n - off) / es := by rw [Nat.le_div_iff_mul_le p1]; omega
        exact Goes.quiet r (fin _ _ (by omega)) (.sliceI hx p1 p2 pl pk)
      | sliceT hx p1 p2 pk => exact Goes.quiet r (fin _ _ (by omega)) (.sliceT hx p1 p2 pk)
    · rename_i n0
      cases hc : ((ccEs cc).beq i.size && Nat.ble ((len + (n0 + 1)) * i.bytes) 140737488355328 && Nat.ble (len + (n0 + 1)) 9223372036854775807) with
      | false => rw [hc] at h; cases h
      | true =>
        rw [hc] at h
        simp only [cond_true] at h
        simp only [Bool.and_eq_true, Nat.ble_eq] at hc
        obtain ⟨⟨c1, c2⟩, c3⟩ := hc
        have c1 := Nat.eq_of_beq_eq_true c1
        -- in place, where it is known that there is room
        have inplace : ∀ (g : G) (cap : Nat) (H' : AHeap), γ x = some g → len + (n0 + 1) ≤ cap → awrite H x (off + len * i.size) news = some H' →
            ∃ w', (Builtin.append_ #[t, t2] ty #[.slice (some ⟨g.b, g.o + off, none⟩) len cap, x']).run P w = .ok (.slice (some ⟨g.b, g.o + off, none⟩) (len + (n0 + 1)) cap) w' ∧ Rel γ B H' w' ∧ Ext γ γ H H' ∧ Below B w w' := fun g cap H' hx hcap ha => by
          obtain ⟨w', q1, q2, q3, q4⟩ := awrite_sound (P := P) r hx hnews ha
          refine ⟨w', ?_, q2, q3, q4⟩
          refine run_append_room' t t2 ty e d2 i ht ht2 hd hi _ len cap (n0 + 1) x' news'.toArray hlen hfc hcap (fun a ha => ?_) (fun h => by cases h)
          cases ha
          rw [add_lit', Nat.add_assoc]
          simpa using q1
        cases hk : (Nat.ble (len + (n0 + 1)) (ccK cc) && Nat.blt (ccKind cc) 2) with
        | true =>
          rw [hk] at h
          simp only [cond_true] at h
          simp only [Bool.and_eq_true, Nat.ble_eq, Nat.blt_eq] at hk
          split at h
          · rename_i H' ha
            cases h
            cases hs with
            | @sliceE _ _ _ es k g hx p1 p2 pl pk =>
              rw [ccK_mk p2 (by omega)] at hk
              obtain ⟨w', q1, q2, q3, q4⟩ := inplace g k H' hx hk.1 ha
              exact ⟨γ, _, w', q1, .sliceE hx p1 p2 hk.1 pk, q2, q3.x, q4⟩
            | @sliceI _ _ _ es k g hx p1 p2 pl pk =>
              rw [ccK_mk p2 (by omega)] at hk
              have : k ≤ (g.n - off) / es := by rw [Nat.le_div_iff_mul_le p1]; omega
              obtain ⟨w', q1, q2, q3, q4⟩ := inplace g ((g.n - off) / es) H' hx (by omega) ha
              exact ⟨γ, _, w', q1, .sliceI hx p1 p2 hk.1 pk, q2, q3.x, q4⟩
            | sliceT hx p1 p2 pk => rw [ccKind_mk p2 (by omega)] at hk; omega
          · cases h
        | false =>
          rw [hk] at h
          simp only [cond_false] at h
          -- a new block
          have newblock : ∀ (g : G) (cap wr : Nat) (old : List Value) (Hx : AHeap), γ x = some g → cap < len + (n0 + 1) → acells H x off (len * i.size) = some old → Rel γ B Hx w →
              ∃ γ' v' w', (Builtin.append_ #[t, t2] ty #[.slice (some ⟨g.b, g.o + off, none⟩) len cap, x']).run P w = .ok v' w' ∧ VRel γ' (.slice (some ⟨nid, 0, none⟩) (len + (n0 + 1)) (mkcc i.size 1 (len + (n0 + 1)))) v' ∧
                Rel γ' B (Hx.put nid (.cells (old ++ news) e wr)) w' ∧ (∃ g', γ' = γ.put nid g') ∧ Below B w w' := fun g cap wr old Hx hx hcap hold hRx => by
            obtain ⟨o1, old', o2, _⟩ := acells_spec r hx hold
            obtain ⟨old'', o4, o5⟩ := run_acells (P := P) r.drew hx hold
            have := o2.uniq o4; subst this
            have hg := run_append_grow' t t2 ty e d2 i z ht ht2 hd hi hz (some ⟨g.b, g.o + off, none⟩) len cap (n0 + 1) x' old'.toArray news'.toArray hlen hfcd (by simpa [Builtin.firstCells] using o5) hcap c3 c2
            have hvs := o2.append hnews
            obtain ⟨k1, k2, k3⟩ := hRx.grown hn (e := e) (wr := wr) (need := len + (n0 + 1)) (cap := grownCap w (len + (n0 + 1)) cap e) hvs hzs (by rw [List.length_append, o1, hl, Nat.add_mul]) (grownCap_ge _ _ _ _) h1 h2
            refine ⟨_, _, _, ?_, k1, k2, ⟨_, rfl⟩, k3⟩
            rw [hg]
            simp
          split at h
          · rename_i hkind
            split at h
            · rename_i old hold
              rw [rebuild_eq] at h
              cases h
              cases hs with
              | @sliceE _ _ _ es k g hx p1 p2 pl pk =>
                rw [ccK_mk p2 (by omega), ccKind_mk p2 (by omega)] at hk
                have hlt : k < len + (n0 + 1) := by
                  rcases Nat.lt_or_ge k (len + (n0 + 1)) with h | h
                  · exact h
                  · have h' : Nat.ble (len + (n0 + 1)) k = true := by rw [Nat.ble_eq]; exact h
                    rw [h'] at hk; cases hk
                obtain ⟨γ', v', w', q1, q2, q3, ⟨g', rfl⟩, q4⟩ := newblock g k 2 old H hx hlt hold r
                exact ⟨_, v', w', q1, q2, q3, ExtX.put hn _ _, q4⟩
              | sliceI hx p1 p2 pl pk => rw [ccKind_mk p2 (by omega)] at hkind; cases hkind
              | sliceT hx p1 p2 pk => rw [ccKind_mk p2 (by omega)] at hkind; cases hkind
            · cases h
          · rename_i hkind
            split at h
            · rename_i c e' wr old ho hold
              cases hcc : (e'.beq e && Nat.blt 0 wr && news.all Value.oneCell') with
              | false => rw [hcc] at h; cases h
              | true =>
                rw [hcc] at h
                simp only [cond_true, rebuild_eq] at h
                cases h
                simp only [Bool.and_eq_true, Nat.blt_eq] at hcc
                obtain ⟨⟨d1, d3⟩, d4⟩ := hcc
                have d1 := Nat.eq_of_beq_eq_true d1
                subst d1
                cases hs with
                | sliceE hx p1 p2 pl pk => rw [ccKind_mk p2 (by omega)] at hkind; cases hkind
                | sliceT hx p1 p2 pk => rw [ccKind_mk p2 (by omega)] at hkind; cases hkind
                | @sliceI _ _ _ es k g hx p1 p2 pl pk =>
                  rw [ccEs_mk p2] at c1
                  subst c1
                  have extx : ∀ g', ExtX nid γ (γ.put nid g') H ((H.put x .dead).put nid (.cells (old ++ news) e' 1)) := fun g' => by
                    have a1 : ExtX nid γ γ H (H.put x .dead) := (Ext.upd hx _).x
                    have a2 : ExtX nid γ (γ.put nid g') (H.put x .dead) ((H.put x .dead).put nid (.cells (old ++ news) e' 1)) := ExtX.put hn _ _
                    exact ⟨a2.le, Nat.le_trans a1.next a2.next, fun y hy hne hny => by
                      obtain ⟨b1, b2⟩ := a1.out y hy hne hny
                      obtain ⟨b3, b4⟩ := a2.out y (Nat.lt_of_lt_of_le hy a1.next) hne b1
                      exact ⟨b3, b4.trans b2⟩⟩
                  by_cases hroom : len + (n0 + 1) ≤ (g.n - off) / i.size
                  · -- there was room: the same block by another name
                    obtain ⟨cur, fz, e1, e2, e3, e4, e5, e6⟩ := r.cells hx ho d3
                    obtain ⟨o1, old', o2, o3⟩ := acells_spec r hx hold
                    have hr1 : (len + (n0 + 1)) * i.size ≤ g.n - off := by rw [← Nat.le_div_iff_mul_le h1]; exact hroom
                    have hr2 : (len + (n0 + 1)) * i.size = len * i.size + (n0 + 1) * i.size := Nat.add_mul _ _ _
                    have hl2 : news'.length = (n0 + 1) * i.size := hl'
                    obtain ⟨cur', f1, f2, f3, f4⟩ := run_storeCells_gen (P := P) (o := g.o + off + len * i.size) news' 0 cur w e1 (e2 d3) (by rw [hl2, e4]; omega) (oneCell_all hnews d4)
                    have hrow := setRow_heap w g.b cur cur' e' fz e1
                    have hl3 : news.length = (n0 + 1) * i.size := hl
                    have hn' : ORel (γ.put nid ⟨g.b, g.o + off, g.n - off⟩) ⟨g.b, g.o + off, g.n - off⟩ (w.setRow g.b cur').heap[g.b]? (.cells (old ++ news) e' 1) := by
                      refine ⟨cur', fz, .inl hrow, fun _ => by rw [f2]; exact e2 d3, fun h => by omega, by rw [f2, e4]; simp only; omega, by rw [List.length_append, o1, hl3]; simp only; omega, ?_⟩
                      have hvs := o2.append hnews
                      intro j v hj
                      obtain ⟨v', m1, m2⟩ := hvs.get hj
                      refine .inr ⟨v', ?_, m2.mono (Gam.le_put hn)⟩
                      have ho' : old'.length = len * i.size := by rw [← o2.length]; exact o1
                      by_cases hjl : j < old'.length
                      · rw [List.getElem?_append_left hjl] at m1
                        have := o3 j v' m1
                        rw [add_lit', cell_at e1] at this
                        simp only
                        rw [f4 _ (.inl (by omega))]
                        exact this
                      · rw [List.getElem?_append_right (by omega)] at m1
                        have := f3 _ _ m1
                        rw [show g.o + off + len * i.size + 0 + (j - old'.length) = g.o + off + j by omega] at this
                        exact this
                    have hrel := r.alias (x' := nid) (g' := ⟨g.b, g.o + off, g.n - off⟩) hx ho rfl (by simpa [AObj.own] using d3) hn rfl (setRow_size w g.b cur') (fun k hk => setRow_other w g.b k cur' hk) hn'
                    refine ⟨_, .slice (some ⟨g.b, g.o + off, none⟩) (len + (n0 + 1)) ((g.n - off) / i.size), w.setRow g.b cur', ?_, ?_, hrel, extx _, ?_⟩
                    · refine run_append_room' t t2 ty e' d2 i ht ht2 hd hi _ len _ (n0 + 1) x' news'.toArray hlen hfc hroom (fun a ha => ?_) (fun h => by cases h)
                      cases ha
                      rw [add_lit']
                      simpa using f1
                    · have hg := Gam.put_same γ nid ⟨g.b, g.o + off, g.n - off⟩
                      have := VRel.sliceI (γ := γ.put nid ⟨g.b, g.o + off, g.n - off⟩) (off := 0) (len := len + (n0 + 1)) (es := i.size) (k := len + (n0 + 1)) hg h1 h2 (Nat.le_refl _) (by simp only; omega)
                      simpa using this
                    · refine ⟨setRow_os _ _ _, setRow_tape _ _ _, setRow_output _ _ _, Nat.le_of_eq (setRow_size _ _ _).symm, fun k hk => setRow_other w g.b k cur' ?_⟩
                      have := r.own x g _ hx ho (by simpa [AObj.own] using d3)
                      omega
                  · obtain ⟨γ', v', w', q1, q2, q3, ⟨g', rfl⟩, q4⟩ := newblock g ((g.n - off) / i.size) 1 old (H.put x .dead) hx (by omega) hold (r.kill hx)
                    exact ⟨_, v', w', q1, q2, q3, extx _, q4⟩
            · cases h
          · cases h
  · cases h

theorem aappend_sound (hF : C.Fits P) (r : Rel γ B H w) {nid : Nat} (hn : γ nid = none) {t t2 ty : Nat} {s s' x x' : Value} (hs : VRel γ s s') (hx : VRel γ x x') {xr : Value × AHeap} (h : aappend C H nid t t2 s x = some xr) :
    Goes nid γ B H w xr.1 xr.2 ((Builtin.append_ #[t, t2] ty #[s', x']).run P w) := by
  unfold aappend at h
  split at h
  · rename_i e d2 hu hu2
    cases hd : srcD d2 with
    | false => rw [hd] at h; cases h
    | true =>
      rw [hd] at h
      simp only [cond_true] at h
      split at h
      · rename_i i hi
        split at h
        · rename_i z hz
          cases hc : (Nat.blt 0 i.size && Nat.blt i.size 65536 && (vcl z).length.beq i.size) with
          | false => rw [hc] at h; cases h
          | true =>
            rw [hc] at h
            simp only [cond_true] at h
            simp only [Bool.and_eq_true, Nat.blt_eq] at hc
            obtain ⟨⟨c1, c2⟩, c3⟩ := hc
            split at h
            · rename_i n news hnw
              obtain ⟨news', a1, a2, a3⟩ := anews_sound (P := P) r hx hnw
              exact agrow_sound r hn (by rw [← hF.und]; exact hu) (by rw [← hF.und]; exact hu2) hd (by rw [← hF.info]; exact hi) hz c1 c2 (Nat.eq_of_beq_eq_true c3) hs a1 a2 a3 h
            · cases h
        · cases h
      · cases h
  · cases h
end
end
end Go.AM

/- The abstract machine, part 13: copy, lengths, conversions, maps that are written, iterators. -/
namespace Go.AM
open Go Go.RowKit
noncomputable section

section
variable {γ : Gam} {B : Nat} {H : AHeap} {w : World} {C : Cx} {P : Program}

/-! ### copy -/
def alenOf : Value → Option Nat
  | .slice _ n _ => some n
  | .string s => some s.size
  | _ => none
theorem alenOf_sound {x x' : Value} {n : Nat} (hx : VRel γ x x') (h : alenOf x = some n) : (Builtin.lenOf x').run P w = .ok n w := by
  cases hx <;> simp [alenOf] at h <;> subst h <;> simp [Builtin.lenOf]
def afirst (H : AHeap) (es n : Nat) : Value → Option (List Value)
  | .slice none 0 0 => some []
  | .slice (some ⟨y, oy, none⟩) _ cc => bif (ccKind cc).beq 2 then (match n with
      | 0 => some []
      | _ + 1 => none) else acells H y oy (n * es)
  | .string b => bif es.beq 1 then some (byteVals (b.extract 0 n)) else none
  | _ => none
theorem afirst_sound (r : Rel γ B H w) {es n : Nat} {x x' : Value} {l : List Value} (hx : VRel γ x x') (h : afirst H es n x = some l) :
    ∃ l', VsRel γ l l' ∧ (Builtin.firstCells es n x').run P w = .ok l'.toArray w := by
  unfold afirst at h
  split at h
  · cases h; cases hx; exact ⟨[], .nil, by simp [Builtin.firstCells]⟩
  · rename_i y oy n0 cc
    cases hk : (ccKind cc).beq 2 with
    | true =>
      rw [hk] at h
      simp only [cond_true] at h
      split at h
      · cases h
        have hk := Nat.eq_of_beq_eq_true hk
        cases hx with
        | sliceE hx h1 h2 hl hk' => rw [ccKind_mk h2 (by omega)] at hk; cases hk
        | sliceI hx h1 h2 hl hk' => rw [ccKind_mk h2 (by omega)] at hk; cases hk
        | sliceT hx h1 h2 hk' => exact ⟨[], .nil, by simp [Builtin.firstCells, loadCells, loadCellsFrom]⟩
      · cases h
    | false =>
      rw [hk] at h
      simp only [cond_false] at h
      cases hx with
      | sliceE hx h1 h2 hl hk' => obtain ⟨l', h3, h4⟩ := run_acells (P := P) r hx h; exact ⟨l', h3, by simpa [Builtin.firstCells] using h4⟩
      | sliceI hx h1 h2 hl hk' => obtain ⟨l', h3, h4⟩ := run_acells (P := P) r hx h; exact ⟨l', h3, by simpa [Builtin.firstCells] using h4⟩
      | sliceT hx h1 h2 hk' => rw [ccKind_mk h2 (by omega)] at hk; cases hk
  · rename_i b
    cases hb : es.beq 1 with
    | false => rw [hb] at h; cases h
    | true =>
      rw [hb] at h
      cases h
      cases hx
      refine ⟨_, gndL_rel _ (gnd_bytes _), ?_⟩
      simp only [Builtin.firstCells, Sem.run_pure, byteVals]
      congr 1
      apply Array.ext'
      simp
  · cases h
def acopy (C : Cx) (H : AHeap) (t : TypeId) (d s : Value) : Option (Value × AHeap) := match C.und t, d, alenOf s with
  | some (.slice e), .slice none 0 0, some n => (match C.size e, afirst H 1 0 s with
    | some es, some _ => (match afirst H es (Nat.min n 0) s with
      | some _ => some (.int .i64 0, H)
      | none => none)
    | _, _ => none)
  | some (.slice e), .slice (some ⟨x, off, none⟩) dl cc, some n => bif Nat.blt (ccKind cc) 2 then (match C.size e with
    | some es => (match afirst H es (Nat.min n dl) s with
      | some vs => (match awrite H x off vs with
        | some H' => some (.int .i64 (Nat.min n dl), H')
        | none => none)
      | none => none)
    | none => none) else none
  | _, _, _ => none
theorem acopy_sound (hF : C.Fits P) (r : Rel γ B H w) {nid : Nat} {t t2 ty : TypeId} {d d' s s' : Value} (hd : VRel γ d d') (hs : VRel γ s s') {xr : Value × AHeap} (h : acopy C H t d s = some xr) :
    Goes nid γ B H w xr.1 xr.2 ((Builtin.copy_ #[t, t2] ty #[d', s']).run P w) := by
  unfold acopy at h
  split at h
  · rename_i e n hu hn
    have hlen := alenOf_sound (P := P) (w := w) hs hn
    split at h
    · rename_i es _l hes _
      split at h
      · rename_i l hl
        cases h
        cases hd
        obtain ⟨l', h1, h2⟩ := afirst_sound (P := P) r hs hl
        have e0 : Nat.min n 0 = 0 := Nat.min_zero n
        rw [e0] at h2
        refine Goes.quiet r ?_ (.int .i64 0)
        simp [Builtin.copy_, run_und hF hu, hlen, run_size hF hes, h2, goInt]
      · cases h
    · cases h
  · rename_i e x off dl cc n hu hn
    have hlen := alenOf_sound (P := P) (w := w) hs hn
    cases hk : Nat.blt (ccKind cc) 2 with
    | false => rw [hk] at h; cases h
    | true =>
      rw [hk] at h
      simp only [cond_true] at h
      rw [Nat.blt_eq] at hk
      split at h
      · rename_i es hes
        split at h
        · rename_i vs hvs
          split at h
          · rename_i H' ha
            cases h
            obtain ⟨l', h1, h2⟩ := afirst_sound (P := P) r hs hvs
            have fin : ∀ (g : G) cap, γ x = some g → Goes nid γ B H w (.int .i64 (Nat.min n dl)) H' ((Builtin.copy_ #[t, t2] ty #[.slice (some ⟨g.b, g.o + off, none⟩) dl cap, s']).run P w) := fun g cap hx => by
              obtain ⟨w', q1, q2, q3, q4⟩ := awrite_sound (P := P) r hx h1 ha
              refine ⟨γ, .int .i64 (Nat.min n dl), w', ?_, .int _ _, q2, q3.x, q4⟩
              simp [Builtin.copy_, run_und hF hu, hlen, run_size hF hes, h2, q1, goInt]
            cases hd with
            | sliceE hx p1 p2 pl pk => exact fin _ _ hx
            | sliceI hx p1 p2 pl pk => exact fin _ _ hx
            | sliceT hx p1 p2 pk => rw [ccKind_mk p2 (by omega)] at hk; omega
          · cases h
        · cases h
      · cases h
  · cases h

/-! ### len, cap -/
def alen (C : Cx) (H : AHeap) (t : TypeId) (x : Value) : Option Value := match C.und t, x with
  | some .string, .string s => some (.int .i64 s.size)
  | some (.array n _), _ => some (.int .i64 n)
  | some (.pointer a), _ => (match C.und a with
    | some (.array n _) => some (.int .i64 n)
    | _ => none)
  | some (.slice _), .slice _ n _ => some (.int .i64 n)
  | some (.map _ _), .map none => some (.int .i64 0)
  | some (.map _ _), .map (some y) => (match H.get y with
    | some (.map es _) => some (.int .i64 es.length)
    | _ => none)
  | _, _ => none
theorem alen_sound (hF : C.Fits P) (r : Rel γ B H w) {t ty : TypeId} {x x' v : Value} (hx : VRel γ x x') (h : alen C H t x = some v) :
    ∃ v', (Builtin.len_ #[t] ty #[x']).run P w = .ok v' w ∧ VRel γ v v' := by
  unfold alen at h
  split at h
  · rename_i s hu; cases h; cases hx; exact ⟨_, by simp [Builtin.len_, run_und hF hu, goInt] <;> rfl, .int _ _⟩
  · rename_i n e hu; cases h; exact ⟨_, by simp [Builtin.len_, run_und hF hu, goInt] <;> rfl, .int _ _⟩
  · rename_i a hu
    split at h
    · rename_i n e hu2; cases h; exact ⟨_, by simp [Builtin.len_, run_und hF hu, run_und hF hu2, goInt] <;> rfl, .int _ _⟩
    · cases h
  · rename_i e a n c hu
    cases h
    refine ⟨.int .i64 n, ?_, .int _ _⟩
    cases hx <;> simp [Builtin.len_, run_und hF hu, goInt]
  · rename_i hu; cases h; cases hx; exact ⟨_, by simp [Builtin.len_, run_und hF hu, goInt] <;> rfl, .int _ _⟩
  · rename_i y hu
    split at h
    · rename_i es clock ho
      cases h
      cases hx with
      | map hx =>
        obtain ⟨es', h1, h2⟩ := r.obj _ _ _ hx ho
        refine ⟨.int .i64 es.length, ?_, .int _ _⟩
        have := h2.length
        simp [Builtin.len_, run_und hF hu, run_getMap h1, goInt, this]
    · cases h
  · cases h
def acap (C : Cx) (t : TypeId) (x : Value) : Option Value := match C.und t, x with
  | some (.slice _), .slice none _ c => some (.int .i64 c)
  | some (.slice _), .slice (some _) _ cc => bif (ccKind cc).beq 0 then some (.int .i64 (ccK cc)) else none
  | _, _ => none
theorem acap_sound (hF : C.Fits P) {t ty : TypeId} {x x' v : Value} (hx : VRel γ x x') (h : acap C t x = some v) :
    ∃ v', (Builtin.cap_ #[t] ty #[x']).run P w = .ok v' w ∧ VRel γ v v' := by
  unfold acap at h
  split at h
  · rename_i e n c hu; cases h; cases hx; exact ⟨_, by simp [Builtin.cap_, run_und hF hu, goInt] <;> rfl, .int _ _⟩
  · rename_i e a n cc hu
    cases hk : (ccKind cc).beq 0 with
    | false => rw [hk] at h; cases h
    | true =>
      rw [hk] at h
      cases h
      have hk := Nat.eq_of_beq_eq_true hk
      cases hx with
      | @sliceE _ _ _ es k g hx p1 p2 pl pk => exact ⟨.int .i64 k, by simp [Builtin.cap_, run_und hF hu, goInt], by rw [ccK_mk p2 (by omega)]; exact .int _ _⟩
      | sliceI hx p1 p2 pl pk => rw [ccKind_mk p2 (by omega)] at hk; cases hk
      | sliceT hx p1 p2 pk => rw [ccKind_mk p2 (by omega)] at hk; cases hk
  · cases h

/-! ### Conversions -/
def asBytes : List Value → Option (List Int)
  | [] => some []
  | .int .u8 n :: l => (match asBytes l with
    | some r => some (n :: r)
    | none => none)
  | _ => none
theorem asBytes_spec : ∀ {l l' : List Value} {ns : List Int}, VsRel γ l l' → asBytes l = some ns → l' = ns.map (Value.int .u8)
  | [], l', ns, hr, h => by cases hr; cases h; rfl
  | v :: l, l', ns, hr, h => by
    cases hr with
    | cons hv hl =>
      unfold asBytes at h
      split at h
      · cases ‹_ :: _ = []›
      · rename_i n l0 heq
        cases heq
        split at h
        · rename_i r hr
          cases h
          cases hv
          rw [asBytes_spec hl hr]; rfl
        · cases h
      · cases h
def bytesStr (ns : List Int) : ByteArray := ⟨(ns.map fun n => UInt8.ofNat n.toNat).toArray⟩
theorem bytesStr_eq : ∀ (ns : List Int) (r : ByteArray), ns.foldl (fun r n => r.push (UInt8.ofNat n.toNat)) r = ⟨r.data ++ (ns.map fun n => UInt8.ofNat n.toNat).toArray⟩
  | [], r => by simp
  | n :: ns, r => by
    simp only [List.foldl_cons]
    rw [bytesStr_eq ns]
    simp [ByteArray.push]

def aconvG (P : Program) (H : AHeap) (src dst : TypeId) (x : Value) : Option (Value × AHeap) := bif gnd x then (match gprun P (convert src dst x) with
  | some v => some (v, H)
  | none => none) else none
theorem aconvG_sound (r : Rel γ B H w) {nid : Nat} {src dst : TypeId} {x x' : Value} (hx : VRel γ x x') {xr : Value × AHeap} (h : aconvG P H src dst x = some xr) : Goes nid γ B H w xr.1 xr.2 ((convert src dst x').run P w) := by
  unfold aconvG at h
  cases hg : gnd x with
  | false => rw [hg] at h; cases h
  | true =>
    rw [hg] at h
    simp only [cond_true] at h
    split at h
    · rename_i v hv
      cases h
      rw [gnd_eq hx hg]
      obtain ⟨h1, h2⟩ := gprun_sound (w := w) (γ := γ) hv
      exact Goes.quiet r h1 h2
    · cases h
def aconvert (C : Cx) (P : Program) (H : AHeap) (nid : Nat) (src dst : TypeId) (x : Value) : Option (Value × AHeap) := match C.und src, C.und dst, x with
  | some (.slice e), some .string, .slice none _ _ => (match C.und e with
    | some (.int .u8) => some (.string .empty, H)
    | _ => none)
  | some (.slice e), some .string, .slice (some ⟨y, oy, none⟩) n cc => (match C.und e, bif (ccKind cc).beq 2 then some [] else acells H y oy n with
    | some (.int .u8), some l => (match asBytes l with
      | some ns => some (.string (bytesStr ns), H)
      | none => none)
    | _, _ => none)
  | some .string, some (.slice e), .string s => (match C.und e with
    | some (.int .u8) => some (.slice (some ⟨nid, 0, none⟩) s.size (mkcc 1 1 s.size), H.put nid (.cells (byteVals s) e 1))
    | _ => none)
  | _, _, x => aconvG P H src dst x
theorem aconvert_sound (hF : C.Fits P) (r : Rel γ B H w) {nid : Nat} (hn : γ nid = none) {src dst : TypeId} {x x' : Value} (hx : VRel γ x x') {xr : Value × AHeap} (h : aconvert C P H nid src dst x = some xr) :
    Goes nid γ B H w xr.1 xr.2 ((convert src dst x').run P w) := by
  unfold aconvert at h
  split at h
  · rename_i e n c hu1 hu2
    split at h
    · rename_i hu3
      cases h
      cases hx
      refine Goes.quiet r ?_ (.string _)
      simp [convert, run_und hF hu1, run_und hF hu2, run_und hF hu3, Conv.bytesToString]
    · cases h
  · rename_i e y oy n cc hu1 hu2
    split at h
    · rename_i l hu3 hl
      split at h
      · rename_i ns hns
        cases h
        have fin : ∀ a c l', VsRel γ l l' → (loadCells a n).run P w = .ok l'.toArray w → Goes nid γ B H w (.string (bytesStr ns)) H ((convert src dst (.slice (some a) n c)).run P w) := fun a c l' hv hrun => by
          have e1 := asBytes_spec hv hns
          subst e1
          have := run_bytesToString (P := P) w a n c ns hrun
          refine Goes.quiet r ?_ (.string _)
          rw [run_convert_bytes_string w src dst e (some a) n c (by rw [← hF.und]; exact hu1) (by rw [← hF.und]; exact hu3) (by rw [← hF.und]; exact hu2), this, bytesStr_eq]
          simp [bytesStr]
        cases hk : (ccKind cc).beq 2 with
        | true =>
          rw [hk] at hl
          cases hl
          have hk := Nat.eq_of_beq_eq_true hk
          cases hx with
          | sliceE hx h1 h2 hl hk' => rw [ccKind_mk h2 (by omega)] at hk; cases hk
          | sliceI hx h1 h2 hl hk' => rw [ccKind_mk h2 (by omega)] at hk; cases hk
          | sliceT hx h1 h2 hk' => exact fin _ _ [] .nil (by simp [loadCells, loadCellsFrom])
        | false =>
          rw [hk] at hl
          simp only [cond_false] at hl
          cases hx with
          | sliceE hx h1 h2 hl' hk' => obtain ⟨l', h3, h4⟩ := run_acells (P := P) r hx hl; exact fin _ _ l' h3 h4
          | sliceI hx h1 h2 hl' hk' => obtain ⟨l', h3, h4⟩ := run_acells (P := P) r hx hl; exact fin _ _ l' h3 h4
          | sliceT hx h1 h2 hk' => rw [ccKind_mk h2 (by omega)] at hk; cases hk
      · cases h
    · cases h
  · rename_i e s hu1 hu2
    split at h
    · rename_i hu3
      cases h
      cases hx
      have hrun := run_bytes_of_string (P := P) w src dst e s (by rw [← hF.und]; exact hu1) (by rw [← hF.und]; exact hu2) (by rw [← hF.und]; exact hu3)
      have hge := grownCap_ge w s.size 0 e
      have hsz : (bytesRow s (grownCap w s.size 0 e)).size = grownCap w s.size 0 e := by
        simp [bytesRow]; omega
      have hrel := r.drew.alloc hn (.cells (bytesRow s (grownCap w s.size 0 e)) e ((bytesRow s (grownCap w s.size 0 e)).size, (bytesRow s (grownCap w s.size 0 e)).size + 1)) (grownCap w s.size 0 e) (o := .cells (byteVals s) e 1)
        ⟨_, _, .inl rfl, fun _ j hj h1 => by simp at h1; omega, fun h => by omega, by rw [hsz]; simp, by simp [byteVals]; exact hge, by
          have := CellsRel.of_vs_append (γ := γ) (gndL_rel _ (gnd_bytes s)) (Array.replicate (grownCap w s.size 0 e - s.size) (Value.int .u8 0))
          have e1 : bytesRow s (grownCap w s.size 0 e) = (byteVals s).toArray ++ Array.replicate (grownCap w s.size 0 e - s.size) (Value.int .u8 0) := by
            unfold bytesRow byteVals
            congr 1
            apply Array.ext'
            simp
          rw [e1]
          exact CellsRel.mono (Gam.le_put hn) this⟩
      refine ⟨_, _, _, hrun, ?_, hrel, ExtX.put hn _ _, ((Below.refl B w).drew).alloc r.base _⟩
      have hg := Gam.put_same γ nid ⟨w.drew.heap.size, 0, grownCap w s.size 0 e⟩
      have := VRel.sliceI (γ := γ.put nid ⟨w.drew.heap.size, 0, grownCap w s.size 0 e⟩) (off := 0) (len := s.size) (es := 1) (k := s.size) hg (by omega) (by omega) (Nat.le_refl _) (by simp; exact hge)
      simpa using this
    · cases h
  · exact aconvG_sound r hx h
end
end
end Go.AM
