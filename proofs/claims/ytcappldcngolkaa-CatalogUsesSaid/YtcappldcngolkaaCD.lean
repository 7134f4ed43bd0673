/- The cat seat: a table, a view is dropped. -/
import Derived.Test.YtcappldcngolkaaCB
namespace Go.Proofs.Ytcappldcngolkaa
open Go Go.RowKit Go.WideMaps Go.WideElems Go.ChangeMaps Go.MapKept

section
variable {w : World} {cb tb vb : Nat} {tl : List (Bs × Value)} {vl : List VRow}
theorem users_len (h : Cat w cb tb vb tl vl) (t : ByteArray) : Calls Try.prog 9 #[.pointer (some ⟨cb, 0, none⟩), .string t] w fun e w' => (∃ p c, e = .returned (.slice p (usersOf vl t).length c)) ∧ Below w.heap.size w w' :=
  (users_calls h t).mono fun e w' ⟨p, c, ss, h1, h2, _, h3⟩ => ⟨⟨p, c, by rw [h1, h2.length_eq]⟩, h3⟩

set_option maxRecDepth 100000 in
theorem drop_none (h : Cat w cb tb vb tl vl) (s : ByteArray) (hs : s.size ≤ maxLen) (ht : (lk tl s.data.toList).isSome = false) :
    Calls Try.prog 10 #[.pointer (some ⟨cb, 0, none⟩), .string s] w fun e w' => e = .returned (.int .i64 6) ∧ Below w.heap.size w w' := by
  obtain ⟨nm, p, l, c, k, e1, lt⟩ := h.lookT hs
  have c0 := h.c0
  have lt0 := lt w (fun _ _ => rfl)
  rw [ht] at lt0
  have hlt := cell_lt c0
  clear lt h hs ht e1
  go_enter Try.func10, Try.ntmps10
  go_wp2
  go_ret
  exact ⟨rfl, (Below.refl _ _).alloc (Nat.le_refl _) _⟩
set_option maxRecDepth 100000 in
theorem drop_used (h : Cat w cb tb vb tl vl) (s : ByteArray) (hs : s.size ≤ maxLen) (ht : (lk tl s.data.toList).isSome = true) (hu : 0 < (usersOf vl s).length) :
    Calls Try.prog 10 #[.pointer (some ⟨cb, 0, none⟩), .string s] w fun e w' => e = .returned (.int .i64 15) ∧ Below w.heap.size w w' := by
  obtain ⟨nm, p, l, c, k, e1, lt⟩ := h.lookT hs
  have c0 := h.c0
  have lt0 := lt w (fun _ _ => rfl)
  rw [ht] at lt0
  have hlt := cell_lt c0
  have us : ∀ o, Calls Try.prog 9 #[.pointer (some ⟨cb, 0, none⟩), .string s] (w.alloc o) fun e w' => (∃ p c, e = .returned (.slice p (usersOf vl s).length c)) ∧ Below w.heap.size w w' := fun o =>
    (users_len (h.kept (Kept.alloc w o)) s).mono fun e w' ⟨h1, h2⟩ => ⟨h1, ((Below.refl _ _).alloc (Nat.le_refl _) o).trans (h2.mono (by simp))⟩
  generalize (usersOf vl s).length = n at *
  clear lt h hs ht e1
  go_enter Try.func10, Try.ntmps10
  go_wp2_with (go_at_call 9; refine (us _).mono ?_; rintro e w' ⟨⟨p', c', rfl⟩, hb⟩)
  go_ret
  exact ⟨rfl, hb⟩
/-- One table's entry has gone. -/
theorem Cat.untabled {w' : World} (h : Cat w cb tb vb tl vl) {s : Bs} (hm : SMap Try.prog 9 w' tb (drop tl s)) (ht : w.mapTurned w' tb) : Cat w' cb tb vb (drop tl s) vl := by
  obtain ⟨es, clock, es', clock', hb, rfl⟩ := ht
  have oth : ∀ k, k ≠ tb → (setBlock w tb (.map es' clock')).heap[k]? = w.heap[k]? := fun k hk => heap_setBlock_other hb _ hk
  have keep : ∀ {b o : Nat} {v : Value}, w.cell? ⟨b, o, none⟩ = some v → (setBlock w tb (.map es' clock')).cell? ⟨b, o, none⟩ = some v := fun {b o v} hc => by
    rw [cell_same (oth _ (fun e => by subst e; simp [World.cell?, hb] at hc))]; exact hc
  refine ⟨keep h.c0, keep h.c1, hm, h.mv.block (oth _ h.ne.symm), h.ne, fun x hx => h.tv x (List.mem_filter.1 hx).1, fun x hx => ?_, h.sl, Nat.le_trans (List.length_filter_le _ _) h.nt, h.nv⟩
  obtain ⟨h0, h | ⟨b, off, c, h1, h2⟩⟩ := h.us x hx
  · exact ⟨h0, .inl h⟩
  · exact ⟨h0, .inr ⟨b, off, c, h1, fun j hj => keep (h2 j hj)⟩⟩
set_option maxRecDepth 100000 in
theorem drop_free (h : Cat w cb tb vb tl vl) (s : ByteArray) (hs : s.size ≤ maxLen) (ht : (lk tl s.data.toList).isSome = true) (hu : (usersOf vl s).length = 0) :
    Calls Try.prog 10 #[.pointer (some ⟨cb, 0, none⟩), .string s] w fun e w' => e = .returned (.int .i64 0) ∧ Cat w' cb tb vb (drop tl s.data.toList) vl ∧ w.grownBy w' (some tb) := by
  obtain ⟨nm, p, l, c, k, e1, lt⟩ := h.lookT hs
  have c0 := h.c0
  have lt0 := lt w (fun _ _ => rfl)
  rw [ht] at lt0
  have hlt := cell_lt c0
  have us : ∀ o, Calls Try.prog 9 #[.pointer (some ⟨cb, 0, none⟩), .string s] (w.alloc o) fun e w' => (∃ p c, e = .returned (.slice p 0 c)) ∧ Below w.heap.size w w' := fun o =>
    (users_len (h.kept (Kept.alloc w o)) s).mono fun e w' ⟨h1, h2⟩ => ⟨by rw [← hu]; exact h1, ((Below.refl _ _).alloc (Nat.le_refl _) o).trans (h2.mono (by simp))⟩
  have c0l : ∀ w', Below w.heap.size w w' → w'.cell? ⟨cb, 0, none⟩ = some (.map (some tb)) := fun w' hb => (h.kept hb.block).c0
  have del : ∀ w2, Below w.heap.size w w2 → ∃ w3, (Builtin.delete_ #[65, 9] 0 #[.map (some tb), .string s]).run Try.prog w2 = .ok (.tuple #[]) w3 ∧ Cat w3 cb tb vb (drop tl s.data.toList) vl ∧ w.grownBy w3 (some tb) := fun w2 hb => by
    obtain ⟨w3, hrun, hm3, ht3⟩ := (h.kept hb.block).mt.del Try.underlying9 Try.underlying65 hs 0
    exact ⟨w3, hrun, (h.kept hb.block).untabled hm3 ht3, grown_of hb ht3.grown⟩
  clear lt h hs ht e1 hu
  go_enter Try.func10, Try.ntmps10
  go_wp2_with (go_at_call 9; refine (us _).mono ?_; rintro e w' ⟨⟨p', c', rfl⟩, hb⟩; have c0w := c0l _ hb; obtain ⟨w3, hrun, hpost⟩ := del _ hb)
  go_ret
  exact ⟨rfl, hpost⟩

set_option maxRecDepth 100000 in
theorem dropV_none (h : Cat w cb tb vb tl vl) (s : ByteArray) (hs : s.size ≤ maxLen) (ht : (lk (vpairs vl) s.data.toList).isSome = false) :
    Calls Try.prog 11 #[.pointer (some ⟨cb, 0, none⟩), .string s] w fun e w' => e = .returned (.int .i64 6) ∧ w = w' := by
  obtain ⟨p, l, c, e1, lt⟩ := h.lookV hs
  have c1 := h.c1
  have lt0 := lt w (fun _ _ => rfl)
  rw [ht] at lt0
  clear lt h hs ht e1
  go_enter Try.func11, Try.ntmps11
  go_wp2
  go_ret
  exact ⟨rfl, rfl⟩
/-- One view's entry has gone. -/
theorem vpairs_drop (l : List VRow) (s : Bs) : vpairs (l.filter fun x => !decide (x.name = s)) = drop (vpairs l) s := by
  unfold vpairs drop
  rw [List.filter_map]
  rfl
theorem Cat.unviewed {w' : World} (h : Cat w cb tb vb tl vl) {s : Bs} (hm : SMap Try.prog 9 w' vb (drop (vpairs vl) s)) (ht : w.mapTurned w' vb) : Cat w' cb tb vb tl (vl.filter fun x => !decide (x.name = s)) := by
  obtain ⟨es, clock, es', clock', hb, rfl⟩ := ht
  have oth : ∀ k, k ≠ vb → (setBlock w vb (.map es' clock')).heap[k]? = w.heap[k]? := fun k hk => heap_setBlock_other hb _ hk
  have keep : ∀ {b o : Nat} {v : Value}, w.cell? ⟨b, o, none⟩ = some v → (setBlock w vb (.map es' clock')).cell? ⟨b, o, none⟩ = some v := fun {b o v} hc => by
    rw [cell_same (oth _ (fun e => by subst e; simp [World.cell?, hb] at hc))]; exact hc
  refine ⟨keep h.c0, keep h.c1, h.mt.block (oth _ h.ne), by rw [vpairs_drop]; exact hm, h.ne, h.tv, fun x hx => ?_, fun x hx => h.sl x (List.mem_filter.1 hx).1, h.nt, Nat.le_trans (List.length_filter_le _ _) h.nv⟩
  obtain ⟨h0, h | ⟨b, off, c, h1, h2⟩⟩ := h.us x (List.mem_filter.1 hx).1
  · exact ⟨h0, .inl h⟩
  · exact ⟨h0, .inr ⟨b, off, c, h1, fun j hj => keep (h2 j hj)⟩⟩
set_option maxRecDepth 100000 in
theorem dropV_some (h : Cat w cb tb vb tl vl) (s : ByteArray) (hs : s.size ≤ maxLen) (ht : (lk (vpairs vl) s.data.toList).isSome = true) :
    Calls Try.prog 11 #[.pointer (some ⟨cb, 0, none⟩), .string s] w fun e w' => e = .returned (.int .i64 0) ∧ Cat w' cb tb vb tl (vl.filter fun x => !decide (x.name = s.data.toList)) ∧ w.grownBy w' (some vb) := by
  obtain ⟨p, l, c, e1, lt⟩ := h.lookV hs
  have c1 := h.c1
  have lt0 := lt w (fun _ _ => rfl)
  rw [ht] at lt0
  obtain ⟨w3, hrun, hm3, ht3⟩ := h.mv.del Try.underlying9 Try.underlying66 hs 0
  have hpost : Cat w3 cb tb vb tl (vl.filter fun x => !decide (x.name = s.data.toList)) ∧ w.grownBy w3 (some vb) := ⟨h.unviewed hm3 ht3, ht3.grown⟩
  clear lt h hs ht e1 hm3 ht3
  go_enter Try.func11, Try.ntmps11
  go_wp2
  go_ret
  exact ⟨rfl, hpost⟩
end
end Go.Proofs.Ytcappldcngolkaa

/- The cat seat: a new catalog; a table that there is. -/
namespace Go.Proofs.Ytcappldcngolkaa
open Go Go.RowKit Go.WideMaps Go.WideElems Go.ChangeMaps Go.MapKept

theorem cell_new (w : World) (cs : Array Value) (e : TypeId) (n j : Nat) (v : Value) (hn : w.heap.size = n) (h : cs[j]? = some v) : (w.alloc (.cells cs e)).cell? ⟨n, j, none⟩ = some v := by
  subst hn
  have : (w.alloc (.cells cs e)).heap[w.heap.size]? = some (.cells cs e) := by unfold World.alloc; simp
  unfold World.cell?
  simp only [this]
  simpa using h
set_option maxRecDepth 100000 in
theorem new_calls (w : World) : Calls Try.prog 6 #[] w fun e w' => e = .returned (.pointer (some ⟨w.heap.size + 2, 0, none⟩)) ∧ Cat w' (w.heap.size + 2) w.heap.size (w.heap.size + 1) [] [] ∧ Below w.heap.size w w' := by
  have hmm := @run_makeMap Try.prog
  have hc : ∀ w', w' = ((w.alloc (.map #[] 0)).alloc (.map #[] 0)).alloc (.cells #[.map (some w.heap.size), .map (some (w.heap.size + 1))] 68) → Cat w' (w.heap.size + 2) w.heap.size (w.heap.size + 1) [] [] ∧ Below w.heap.size w w' := fun w' e => by
    subst e
    have m0 := ((SMap.made w Try.prog 9).kept (World.grownBy_alloc _ (.map #[] 0) none) (by simp)).kept (World.grownBy_alloc _ (.cells #[.map (some w.heap.size), .map (some (w.heap.size + 1))] 68) none) (by simp)
    have m1 := (SMap.made (w.alloc (.map #[] 0)) Try.prog 9).kept (World.grownBy_alloc _ (.cells #[.map (some w.heap.size), .map (some (w.heap.size + 1))] 68) none) (by simp)
    have e1 : (w.alloc (.map #[] 0)).heap.size = w.heap.size + 1 := by simp
    rw [e1] at m1
    refine ⟨⟨?_, ?_, m0, m1, by omega, by simp, by simp, by simp, by simp, by simp⟩, (((Below.refl _ _).alloc (Nat.le_refl _) _).alloc (by simp) _).alloc (by simp; omega) _⟩
    · exact cell_new _ _ _ _ _ _ (by simp) rfl
    · exact cell_new _ _ _ _ _ _ (by simp) rfl
  go_enter Try.func6, Try.ntmps6
  go_wp2
  go_ret
  exact ⟨rfl, hc _ rfl⟩
/-- What lay there lies there. -/
theorem bcells {W w1 : World} (hb : Below W.heap.size W w1) : (∀ b o, b < W.heap.size → w1.cell? ⟨b, o, none⟩ = W.cell? ⟨b, o, none⟩) ∧ ∀ b o, b < W.heap.size → w1.frozen? ⟨b, o, none⟩ = W.frozen? ⟨b, o, none⟩ :=
  ⟨fun b o h => hb.cell (p := ⟨b, o, none⟩) h, fun b o h => hb.frozen (p := ⟨b, o, none⟩) h⟩
theorem ColAt.len {w : World} {p : Option Addr} {l c : Nat} {cs : List Col} (h : ColAt w (.slice p l c) cs) : l = cs.length := by
  obtain ⟨_, ⟨rfl, a, c', h⟩ | ⟨b, off, c', h, _⟩⟩ := h
  · cases h; rfl
  · cases h; rfl
section
variable {w : World} {cb tb vb : Nat} {tl : List (Bs × Value)} {vl : List VRow}
set_option maxRecDepth 100000 in
theorem table_some (h : Cat w cb tb vb tl vl) (s : ByteArray) (hs : s.size ≤ maxLen) {nm : ByteArray} {p : Option Addr} {l k : Nat} {key : Int} {cs : List Col} (ht : lk tl s.data.toList = some (.agg #[.string nm, .slice p l k, .int .i64 key])) (hc : ColAt w (.slice p l k) cs) (hne : cs ≠ []) :
    Calls Try.prog 15 #[.pointer (some ⟨cb, 0, none⟩), .string s] w fun e w' => ∃ p' k', e = .returned (.tuple #[.agg #[.string nm, .slice p' cs.length k', .int .i64 key], .bool true]) ∧ ColAt w' (.slice p' cs.length k') cs ∧ Below w.heap.size w w' := by
  have look : ∀ w', Kept w w' → (Instr.lookup 65 (.map (some tb)) (.string s) true).run Try.prog w' = .ok (.tuple #[.agg #[.string nm, .slice p l k, .int .i64 key], .bool true]) w' := fun w' hk => by
    have := (h.kept hk).mt.look Try.underlying9 Try.underlying65 (zero53 w') hs
    rw [ht] at this
    exact this
  have c0 := h.c0
  have hlt := cell_lt c0
  have clone0 : ∀ w', Below w.heap.size w w' → Calls Try.prog 23 #[.slice p l k] w' fun e w2 => ∃ p' k', e = .returned (.slice p' cs.length k') ∧ ColAt w2 (.slice p' cs.length k') cs ∧ Below w'.heap.size w' w2 ∧ ∀ a, p' = some a → w'.heap.size ≤ a.block := fun w' hb =>
    (cloneCols_calls (hc.kept hb.block) hne).mono fun e w2 ⟨p', l', k', h1, h2, h3, h4⟩ => by
      have := h2.len
      subst this
      exact ⟨p', k', h1, h2, h3, h4⟩
  have clone := fun o1 o2 => clone0 ((w.alloc o1).alloc o2) (((Below.refl _ _).alloc (Nat.le_refl _) _).alloc (by simp) _)
  have lk0 := fun o => look (w.alloc o) (Kept.alloc w o)
  clear look ht h hs hc hne clone0
  go_enter Try.func15, Try.ntmps15
  go_wp2_with (go_at_call 23; refine (clone _ _).mono ?_; rintro e w2 ⟨p', k', rfl, hst, hb2, hnew⟩; obtain ⟨hcc, hff⟩ := bcells hb2; have hz := hb2.size)
  have a0 : w2.cell? ⟨w.heap.size, 0, none⟩ = some (.string ⟨#[]⟩) := by
    rw [hcc w.heap.size 0 (by simp only [World.size_alloc]; omega), cell_same (Below.heap_alloc _ _ _ (by simp only [World.size_alloc]; omega))]
    exact cell_new _ _ _ _ _ _ rfl rfl
  have a1 : w2.cell? ⟨w.heap.size, 1, none⟩ = some (.slice none 0 0) := by
    rw [hcc w.heap.size 1 (by simp only [World.size_alloc]; omega), cell_same (Below.heap_alloc _ _ _ (by simp only [World.size_alloc]; omega))]
    exact cell_new _ _ _ _ _ _ rfl rfl
  have a2 : w2.cell? ⟨w.heap.size, 2, none⟩ = some (.int .i64 0) := by
    rw [hcc w.heap.size 2 (by simp only [World.size_alloc]; omega), cell_same (Below.heap_alloc _ _ _ (by simp only [World.size_alloc]; omega))]
    exact cell_new _ _ _ _ _ _ rfl rfl
  refine bodyPost_ret (v := .tuple #[.agg #[.string nm, .slice p' cs.length k', .int .i64 key], .bool true]) (by simp [results, Try.results15, go_sem, a0, a1, a2]) rfl ⟨p', k', rfl, ?_, ?_⟩
  · obtain ⟨q0, q | ⟨b', off', c', q1, q2⟩⟩ := hst
    · exact ⟨q0, .inl q⟩
    · have hb' : w.heap.size + 2 ≤ b' := by
        cases q1
        have := hnew _ rfl
        simpa using this
      have keep : ∀ {o : Nat} {v : Value}, w2.cell? ⟨b', o, none⟩ = some v → ((((w2.setCell ⟨w.heap.size + 1, 1, none⟩ (.slice p' cs.length k')).setCell ⟨w.heap.size, 0, none⟩ (.string nm)).setCell ⟨w.heap.size, 1, none⟩ (.slice p' cs.length k')).setCell ⟨w.heap.size, 2, none⟩ (.int .i64 key)).cell? ⟨b', o, none⟩ = some v := fun {o v} hc => by
        rw [cell_same (Below.heap_setCell _ _ _ _ (by simp; omega)), cell_same (Below.heap_setCell _ _ _ _ (by simp; omega)), cell_same (Below.heap_setCell _ _ _ _ (by simp; omega)), cell_same (Below.heap_setCell _ _ _ _ (by simp; omega))]
        exact hc
      exact ⟨q0, .inr ⟨b', off', c', q1, fun j hj => ⟨keep (q2 j hj).1, keep (q2 j hj).2.1, keep (q2 j hj).2.2⟩⟩⟩
  · have hw2 : Below w.heap.size w w2 := (((Below.refl _ _).alloc (Nat.le_refl _) _).alloc (by simp) _).trans (hb2.mono (by simp; omega))
    exact (((hw2.setCell (by simp) _).setCell (by simp) _).setCell (by simp) _).setCell (by simp) _
end
end Go.Proofs.Ytcappldcngolkaa

/- The cat seat: law 19 speaks. -/
namespace Go.Proofs.Ytcappldcngolkaa
open Go Go.RowKit Go.WideMaps Go.WideElems Go.ChangeMaps Go.MapKept

theorem SMap.isMap {P : Program} {kt : TypeId} {w : World} {b : Nat} {l : List (Bs × Value)} (h : SMap P kt w b l) : ∃ es clock, w.heap[b]? = some (.map es clock) := by
  obtain ⟨D, ⟨es, clock, hb, _⟩, _⟩ := h.own
  exact ⟨es, clock, hb⟩
theorem cell_turned {w w' : World} {m b o : Nat} {v : Value} (hm : ∃ es clock, w.heap[m]? = some (.map es clock)) (hg : w.grownBy w' (some m)) (hc : w.cell? ⟨b, o, none⟩ = some v) : w'.cell? ⟨b, o, none⟩ = some v := by
  obtain ⟨es, clock, hm⟩ := hm
  rw [cell_same (hg.block b (cell_lt hc) (fun e => by cases e; simp [World.cell?, hm] at hc))]
  exact hc
theorem ColAt.turned {w w' : World} {m : Nat} {v : Value} {cs : List Col} (h : ColAt w v cs) (hm : ∃ es clock, w.heap[m]? = some (.map es clock)) (hg : w.grownBy w' (some m)) : ColAt w' v cs := by
  obtain ⟨q0, q | ⟨b', off', c', q1, q2⟩⟩ := h
  · exact ⟨q0, .inl q⟩
  · exact ⟨q0, .inr ⟨b', off', c', q1, fun j hj => ⟨cell_turned hm hg (q2 j hj).1, cell_turned hm hg (q2 j hj).2.1, cell_turned hm hg (q2 j hj).2.2⟩⟩⟩

def tS : ByteArray := ⟨#[116]⟩
/-- One column, that is the key. -/
theorem one_right (nm : ByteArray) (kd : Int) (h : badKind kd = false) : rightCode [⟨nm, kd, true⟩] = 0 := by
  have h1 : kone [⟨nm, kd, true⟩] = true := rfl
  have h2 : anyBad [⟨nm, kd, true⟩] = false := by simp [anyBad, h]
  have h3 : dcount [⟨nm, kd, true⟩] = 1 := rfl
  simp [rightCode, h1, h2, h3]

section
variable {w : World} {cb tb vb : Nat}
theorem make_one (h : Cat w cb tb vb [] []) (nm : ByteArray) (hnm : nm.size ≤ maxLen) (kd : Int) (hk : badKind kd = false) :
    Calls Try.prog 7 #[.pointer (some ⟨cb, 0, none⟩), .string ⟨#[116]⟩, .slice (some ⟨w.heap.size, 0, none⟩) 1 1] (w.alloc (.cells #[.string nm, .int .i64 kd, .bool true] 29)) fun e w' => e = .returned (.int .i64 0) ∧
      (∃ p l k, Cat w' cb tb vb [([116], .agg #[.string ⟨#[116]⟩, .slice p l k, .int .i64 0])] [] ∧ ColAt w' (.slice p l k) [⟨nm, kd, true⟩]) ∧ w.grownBy w' (some tb) := by
  have hat : ColAt (w.alloc (.cells #[.string nm, .int .i64 kd, .bool true] 29)) (.slice (some ⟨w.heap.size, 0, none⟩) [(⟨nm, kd, true⟩ : Col)].length 1) [⟨nm, kd, true⟩] := by
    refine ⟨by simp, .inr ⟨w.heap.size, 0, 1, rfl, fun j hj => ?_⟩⟩
    obtain rfl : j = 0 := by simpa using hj
    exact ⟨cell_new _ _ _ _ _ _ rfl rfl, cell_new _ _ _ _ _ _ rfl rfl, cell_new _ _ _ _ _ _ rfl rfl⟩
  have hall : ∀ j, (colAt [(⟨nm, kd, true⟩ : Col)] j).name.size ≤ maxLen := fun j => by
    cases j with
    | zero => exact hnm
    | succ j => exact Nat.zero_le _
  refine (make_added (h.kept (Kept.alloc _ _)) ⟨#[116]⟩ (by unfold maxLen; decide) w.heap.size 0 1 [⟨nm, kd, true⟩] hat hall rfl (by simp) (one_right nm kd hk)).mono fun e w' ⟨h1, h2, h3⟩ => ?_
  exact ⟨h1, h2, grown_of ((Below.refl _ _).alloc (Nat.le_refl _) _) h3⟩

set_option maxRecDepth 100000 in
set_option maxHeartbeats 1000000 in
theorem speaks_calls (w : World) : Calls Try.prog 5 #[] w fun e w' => e = .returned (.bool true) ∧ Below w.heap.size w w' := by
  have c6 := new_calls w
  have mk : ∀ w1, Cat w1 (w.heap.size + 2) w.heap.size (w.heap.size + 1) [] [] → Below w.heap.size w w1 → Calls Try.prog 7 #[.pointer (some ⟨w.heap.size + 2, 0, none⟩), .string ⟨#[116]⟩, .slice (some ⟨w1.heap.size, 0, none⟩) 1 1] (w1.alloc (.cells #[.string ⟨#[97]⟩, .int .i64 2, .bool true] 29)) fun e w2 => e = .returned (.int .i64 0) ∧
      (∃ p l k, Cat w2 (w.heap.size + 2) w.heap.size (w.heap.size + 1) [([116], .agg #[.string ⟨#[116]⟩, .slice p l k, .int .i64 0])] [] ∧ ColAt w2 (.slice p l k) [⟨⟨#[97]⟩, 2, true⟩]) ∧ Below w.heap.size w w2 := fun w1 hc hb =>
    (make_one hc ⟨#[97]⟩ (by unfold maxLen; decide) 2 rfl).mono fun e w2 ⟨h1, h2, h3⟩ => ⟨h1, h2, hb.grown h3 hb.size (fun k hk => by cases hk; exact Nat.le_refl _)⟩
  have vw : ∀ w2 p l k, Cat w2 (w.heap.size + 2) w.heap.size (w.heap.size + 1) [([116], .agg #[.string ⟨#[116]⟩, .slice p l k, .int .i64 0])] [] → ColAt w2 (.slice p l k) [⟨⟨#[97]⟩, 2, true⟩] → Below w.heap.size w w2 →
      Calls Try.prog 8 #[.pointer (some ⟨w.heap.size + 2, 0, none⟩), .string ⟨#[118]⟩, .slice (some ⟨w2.heap.size, 0, none⟩) 1 1] (w2.alloc (.cells #[.string ⟨#[116]⟩] 9)) fun e w3 => e = .returned (.int .i64 0) ∧
        (∃ v', Cat w3 (w.heap.size + 2) w.heap.size (w.heap.size + 1) [([116], .agg #[.string ⟨#[116]⟩, .slice p l k, .int .i64 0])] [⟨[118], v', [⟨#[116]⟩]⟩]) ∧ ColAt w3 (.slice p l k) [⟨⟨#[97]⟩, 2, true⟩] ∧ Below w.heap.size w w3 := fun w2 p l k hc hcol hb => by
    have hc' := hc.kept (Kept.alloc w2 (.cells #[.string ⟨#[116]⟩] 9))
    refine (view_added hc' ⟨#[118]⟩ (by unfold maxLen; decide) w2.heap.size 0 1 [⟨#[116]⟩] (fun j hj => ?_) (fun j => ?_) (by simp) rfl (by simp) (fun j hj => ?_)).mono fun e w3 ⟨h1, v', h2, h3⟩ => ?_
    · obtain rfl : j = 0 := by simpa using hj
      exact cell_new _ _ _ _ _ _ rfl rfl
    · cases j with
      | zero => show (1 : Nat) ≤ maxLen; unfold maxLen; decide
      | succ j => exact Nat.zero_le _
    · obtain rfl : j = 0 := by simpa using hj
      rfl
    · refine ⟨h1, ⟨v', h2⟩, (hcol.kept (Kept.alloc _ _)).turned hc'.mv.isMap h3, ?_⟩
      exact (hb.alloc hb.size _).grown h3 (Nat.le_trans hb.size (by simp)) (fun k hk => by cases hk; exact Nat.le_succ _)
  have tbl : ∀ w3 p l k v', Cat w3 (w.heap.size + 2) w.heap.size (w.heap.size + 1) [([116], .agg #[.string ⟨#[116]⟩, .slice p l k, .int .i64 0])] [⟨[118], v', [⟨#[116]⟩]⟩] → ColAt w3 (.slice p l k) [⟨⟨#[97]⟩, 2, true⟩] → Below w.heap.size w w3 →
      Calls Try.prog 15 #[.pointer (some ⟨w.heap.size + 2, 0, none⟩), .string ⟨#[116]⟩] w3 fun e w4 => (∃ p' k', e = .returned (.tuple #[.agg #[.string ⟨#[116]⟩, .slice p' 1 k', .int .i64 0], .bool true])) ∧ Cat w4 (w.heap.size + 2) w.heap.size (w.heap.size + 1) [([116], .agg #[.string ⟨#[116]⟩, .slice p l k, .int .i64 0])] [⟨[118], v', [⟨#[116]⟩]⟩] ∧ Below w.heap.size w w4 := fun w3 p l k v' hc hcol hb =>
    (table_some hc ⟨#[116]⟩ (by unfold maxLen; decide) rfl hcol (by simp)).mono fun e w4 ⟨p', k', h1, _, h3⟩ => ⟨⟨p', k', h1⟩, hc.kept h3.block, hb.trans (h3.mono hb.size)⟩
  have drp : ∀ w4 p l k v' o, Cat w4 (w.heap.size + 2) w.heap.size (w.heap.size + 1) [([116], .agg #[.string ⟨#[116]⟩, .slice p l k, .int .i64 0])] [⟨[118], v', [⟨#[116]⟩]⟩] → Below w.heap.size w w4 →
      Calls Try.prog 10 #[.pointer (some ⟨w.heap.size + 2, 0, none⟩), .string ⟨#[116]⟩] (w4.alloc o) fun e w5 => e = .returned (.int .i64 15) ∧ Below w.heap.size w w5 := fun w4 p l k v' o hc hb =>
    (drop_used (hc.kept (Kept.alloc w4 o)) ⟨#[116]⟩ (by unfold maxLen; decide) rfl (by rw [show usersOf [⟨[118], v', [⟨#[116]⟩]⟩] ⟨#[116]⟩ = [[118]] from rfl]; decide)).mono fun e w5 ⟨h1, h2⟩ => ⟨h1, (hb.alloc hb.size o).trans (h2.mono (Nat.le_trans hb.size (by simp)))⟩
  go_enter Try.func5, Try.ntmps5
  go_wp2_with (first
    | (go_at_call 6; refine c6.mono ?_; rintro e w1 ⟨rfl, hc1, hb1⟩; have m := mk w1 hc1 hb1)
    | (go_at_call 7; refine m.mono ?_; rintro e w2 ⟨rfl, ⟨p, l, k, hc2, hcol2⟩, hb2⟩; have v := vw w2 p l k hc2 hcol2 hb2)
    | (go_at_call 8; refine v.mono ?_; rintro e w3 ⟨rfl, ⟨v', hc3⟩, hcol3, hb3⟩; have t := tbl w3 p l k v' hc3 hcol3 hb3)
    | (go_at_call 15; refine t.mono ?_; rintro e w4 ⟨⟨p', k', rfl⟩, hc4, hb4⟩; have d := fun o => drp w4 p l k v' o hc4 hb4)
    | (go_at_call 10; refine (d _).mono ?_; rintro e w5 ⟨rfl, hb5⟩))
  go_ret
  exact ⟨rfl, hb5⟩
end
end Go.Proofs.Ytcappldcngolkaa

/- The cat seat: CatalogUses. -/
namespace Go.Proofs.Ytcappldcngolkaa
open Go Go.RowKit Go.WideMaps Go.WideElems Go.ChangeMaps Go.MapKept

def vn (j : Nat) : Bs := [118, UInt8.ofNat (48 + j)]
theorem vn_inj {i j : Nat} (hi : i < 9) (hj : j < 9) (h : vn i = vn j) : i = j := by
  simp only [vn, List.cons.injEq, and_true, true_and] at h
  have := congrArg UInt8.toNat h
  simp at this
  omega
def dS (j : Nat) : ByteArray := ⟨⟨[UInt8.ofNat (48 + j)]⟩⟩
theorem vS_list (j : Nat) : ((⟨#[118]⟩ : ByteArray) ++ dS j).data.toList = vn j := by simp [dS, vn]
theorem vS_size (j : Nat) : ((⟨#[118]⟩ : ByteArray) ++ dS j).size ≤ maxLen := by
  have : ((⟨#[118]⟩ : ByteArray) ++ dS j).size = 2 := by
    show ((⟨#[118]⟩ : ByteArray) ++ dS j).data.size = 2
    rw [← Array.length_toList, vS_list]; rfl
  rw [this]; unfold maxLen; decide
theorem byteStr (w : World) (j : Nat) : (convert 32 9 (.slice (some ⟨w.heap.size, 0, none⟩) 1 1)).run Try.prog (w.alloc (.cells #[.int .u8 (48 + (j : Int))] 5)) = .ok (.string (dS j)) (w.alloc (.cells #[.int .u8 (48 + (j : Int))] 5)) := by
  have h1 : (loadCells ⟨w.heap.size, 0, none⟩ 1).run Try.prog (w.alloc (.cells #[.int .u8 (48 + (j : Int))] 5)) = .ok (([48 + (j : Int)] : List Int).map (Value.int .u8)).toArray (w.alloc (.cells #[.int .u8 (48 + (j : Int))] 5)) := by
    have := run_loadCells_list (P := Try.prog) (w.alloc (.cells #[.int .u8 (48 + (j : Int))] 5)) ⟨w.heap.size, 0, none⟩ [.int .u8 (48 + (j : Int))] (cell_one_new _ _ _)
    exact this
  have h2 := run_bytesToString _ _ 1 1 _ h1
  have e : ([48 + (j : Int)] : List Int).foldl (fun r n => r.push (UInt8.ofNat n.toNat)) ByteArray.empty = dS j := by
    have : (48 + (j : Int)).toNat = 48 + j := by omega
    simp only [List.foldl_cons, List.foldl_nil, this]
    rfl
  rw [e] at h2
  have u5 : (underlying 5).run Try.prog (w.alloc (.cells #[.int .u8 (48 + (j : Int))] 5)) = .ok (.int .u8) (w.alloc (.cells #[.int .u8 (48 + (j : Int))] 5)) := run_underlying Try.underlying5 _
  have u32 : (underlying 32).run Try.prog (w.alloc (.cells #[.int .u8 (48 + (j : Int))] 5)) = .ok (.slice 5) (w.alloc (.cells #[.int .u8 (48 + (j : Int))] 5)) := run_underlying Try.underlying32 _
  have u9 : (underlying 9).run Try.prog (w.alloc (.cells #[.int .u8 (48 + (j : Int))] 5)) = .ok .string (w.alloc (.cells #[.int .u8 (48 + (j : Int))] 5)) := run_underlying Try.underlying9 _
  simp only [convert, Sem.run_bind, u5, u32, u9, Result.andThen_ok, h2]
theorem names_none {vl : List VRow} {j : Nat} (hj : j < 9) (h : vl.map (·.name) = (List.range j).map vn) : lk (vpairs vl) (vn j) = none := by
  rw [lk_none]
  have e : (vpairs vl).map (·.1) = vl.map (·.name) := by rw [vpairs, List.map_map]; rfl
  rw [e, h]
  intro hm
  obtain ⟨i, hi, e⟩ := List.mem_map.1 hm
  have hi' := List.mem_range.1 hi
  have := vn_inj (by omega) hj e
  omega
theorem added_j {w wr : World} {cb tb vb j : Nat} {T : Value} {vl : List VRow} (hj : j < 8) (hc : Cat wr cb tb vb [([116], T)] vl) (hnm : vl.map (·.name) = (List.range j).map vn) (hv : w.heap.size ≤ vb) (hb : Below w.heap.size w wr) (o : Obj) :
    Calls Try.prog 8 #[.pointer (some ⟨cb, 0, none⟩), .string (⟨#[118]⟩ ++ dS j), .slice (some ⟨wr.heap.size + 1, 0, none⟩) 2 2] ((wr.alloc o).alloc (.cells #[.string ⟨#[116]⟩, .string ⟨#[116]⟩] 9)) fun e w' => e = .returned (.int .i64 0) ∧ (∃ v', Cat w' cb tb vb [([116], T)] (vl ++ [⟨vn j, v', [tS, tS]⟩])) ∧ Below w.heap.size w w' := by
  have hlen : vl.length = j := by have := congrArg List.length hnm; simpa using this
  have hc' := (hc.kept (Kept.alloc wr o)).kept (Kept.alloc (wr.alloc o) (.cells #[.string ⟨#[116]⟩, .string ⟨#[116]⟩] 9))
  have hn := names_none (by omega) hnm
  refine (view_added hc' (⟨#[118]⟩ ++ dS j) (vS_size j) (wr.heap.size + 1) 0 2 [tS, tS] (fun i hi => ?_) (fun i => ?_) (by simp) ?_ (by omega) (fun i hi => ?_)).mono fun e w3 ⟨h1, v', h2, h3⟩ => ?_
  · have : i = 0 ∨ i = 1 := by simp at hi; omega
    rcases this with rfl | rfl <;> exact cell_new _ _ _ _ _ _ (by simp) rfl
  · match i with
    | 0 => show (1 : Nat) ≤ maxLen; unfold maxLen; decide
    | 1 => show (1 : Nat) ≤ maxLen; unfold maxLen; decide
    | i + 2 => exact Nat.zero_le _
  · rw [vS_list, hn]; rfl
  · have : i = 0 ∨ i = 1 := by simp at hi; omega
    rcases this with rfl | rfl <;> rfl
  · rw [vS_list] at h2
    exact ⟨h1, ⟨v', h2⟩, ((hb.alloc hb.size o).alloc (by simp; exact Nat.le_succ_of_le hb.size) _).grown h3 (by simp; have := hb.size; omega) (fun k hk => by cases hk; exact hv)⟩
/-! ### The second loop -/
theorem users_all {vl : List VRow} (h : ∀ x ∈ vl, x.uses = [tS, tS]) : (usersOf vl ⟨#[116]⟩).length = vl.length := by
  unfold usersOf
  rw [List.length_map, List.filter_eq_self.2]
  intro x hx
  rw [h x hx]; rfl
theorem names_some {vl : List VRow} {j m : Nat} (h : vl.map (·.name) = (List.range' j (m + 1)).map vn) : (lk (vpairs vl) (vn j)).isSome = true := by
  cases hl : lk (vpairs vl) (vn j) with
  | some v => rfl
  | none =>
    rw [lk_none] at hl
    have e : (vpairs vl).map (·.1) = vl.map (·.name) := by rw [vpairs, List.map_map]; rfl
    rw [e, h, List.range'_succ] at hl
    simp at hl
theorem names_next {vl : List VRow} {j m : Nat} (hjm : j + (m + 1) ≤ 9) (h : vl.map (·.name) = (List.range' j (m + 1)).map vn) : (vl.filter fun x => !decide (x.name = vn j)).map (·.name) = (List.range' (j + 1) m).map vn := by
  have e : (vl.filter fun x => !decide (x.name = vn j)).map (·.name) = (vl.map (·.name)).filter fun s => !decide (s = vn j) := by
    rw [List.filter_map]; rfl
  rw [e, h, List.range'_succ, List.map_cons, List.filter_cons]
  simp only [decide_true, Bool.not_true, Bool.false_eq_true, if_false]
  rw [List.filter_eq_self]
  intro s hs
  obtain ⟨i, hi, rfl⟩ := List.mem_map.1 hs
  rw [List.mem_range'_1] at hi
  have : vn i ≠ vn j := fun e => by
    have := vn_inj (by omega) (by omega) e
    omega
  simp [this]
section
variable {w wr : World} {cb tb vb : Nat} {T : Value} {vl : List VRow}
theorem later (hb : Below w.heap.size w wr) {w' : World} (h : Below wr.heap.size wr w') : Below w.heap.size w w' := hb.trans (h.mono hb.size)
theorem u_calls (hc : Cat wr cb tb vb [([116], T)] vl) (hb : Below w.heap.size w wr) (t : ByteArray) :
    Calls Try.prog 9 #[.pointer (some ⟨cb, 0, none⟩), .string t] wr fun e w' => (∃ p c, e = .returned (.slice p (usersOf vl t).length c)) ∧ Cat w' cb tb vb [([116], T)] vl ∧ Below w.heap.size w w' :=
  (users_len hc t).mono fun _ _ ⟨h1, h2⟩ => ⟨h1, hc.kept h2.block, later hb h2⟩
theorem d_calls (hc : Cat wr cb tb vb [([116], T)] vl) (hb : Below w.heap.size w wr) (hu : 0 < (usersOf vl ⟨#[116]⟩).length) :
    Calls Try.prog 10 #[.pointer (some ⟨cb, 0, none⟩), .string ⟨#[116]⟩] wr fun e w' => e = .returned (.int .i64 15) ∧ Cat w' cb tb vb [([116], T)] vl ∧ Below w.heap.size w w' :=
  (drop_used hc ⟨#[116]⟩ (by unfold maxLen; decide) rfl hu).mono fun _ _ ⟨h1, h2⟩ => ⟨h1, hc.kept h2.block, later hb h2⟩
theorem m_calls (hc : Cat wr cb tb vb [([116], T)] vl) (hb : Below w.heap.size w wr) {j : Nat} (hs : (lk (vpairs vl) (vn j)).isSome = true) (o : Obj) :
    Calls Try.prog 7 #[.pointer (some ⟨cb, 0, none⟩), .string (⟨#[118]⟩ ++ dS j), .slice none 0 0] (wr.alloc o) fun e w' => e = .returned (.int .i64 7) ∧ Cat w' cb tb vb [([116], T)] vl ∧ Below w.heap.size w w' := by
  have hc' := hc.kept (Kept.alloc wr o)
  have ht : ((lk [([116], T)] (((⟨#[118]⟩ : ByteArray) ++ dS j).data.toList)).isSome || (lk (vpairs vl) ((⟨#[118]⟩ : ByteArray) ++ dS j).data.toList).isSome) = true := by rw [vS_list, hs]; simp
  have hb' := hb.alloc hb.size o
  have key := make_taken hc' (⟨#[118]⟩ ++ dS j) (vS_size j) (.slice none 0 0) ht
  exact key.mono fun _ _ h => ⟨h.1, hc'.kept h.2.block, hb'.trans (h.2.mono hb'.size)⟩
theorem v_calls (hc : Cat wr cb tb vb [([116], T)] vl) (hb : Below w.heap.size w wr) (hv : w.heap.size ≤ vb) {j : Nat} (hs : (lk (vpairs vl) (vn j)).isSome = true) (o : Obj) :
    Calls Try.prog 11 #[.pointer (some ⟨cb, 0, none⟩), .string (⟨#[118]⟩ ++ dS j)] (wr.alloc o) fun e w' => e = .returned (.int .i64 0) ∧ Cat w' cb tb vb [([116], T)] (vl.filter fun x => !decide (x.name = vn j)) ∧ Below w.heap.size w w' := by
  have hc' := hc.kept (Kept.alloc wr o)
  have hb' := hb.alloc hb.size o
  have key := dropV_some hc' (⟨#[118]⟩ ++ dS j) (vS_size j) (by rw [vS_list]; exact hs)
  rw [vS_list] at key
  exact key.mono fun _ _ h => ⟨h.1, h.2.1, hb'.grown h.2.2 hb'.size (fun k hk => by cases hk; exact hv)⟩
end
/-! ### The third loop -/
def St (vl : List VRow) : Prop := vl = [] ∨ ∃ v, vl = [⟨[119, 116], v, [tS]⟩]
theorem St.some (v : Value) : St [⟨[119, 116], v, [tS]⟩] := .inr ⟨v, rfl⟩
theorem wS_list (s : ByteArray) : ((⟨#[119]⟩ : ByteArray) ++ s).data.toList = 119 :: s.data.toList := by simp
section
variable {w wr : World} {cb tb vb : Nat} {T : Value} {vl : List VRow}
theorem s_calls (hc : Cat wr cb tb vb [([116], T)] vl) (hst : St vl) (hb : Below w.heap.size w wr) (hv : w.heap.size ≤ vb) (s : ByteArray) (hs : s.size < maxLen) :
    Calls Try.prog 8 #[.pointer (some ⟨cb, 0, none⟩), .string (⟨#[119]⟩ ++ s), .slice (some ⟨wr.heap.size, 0, none⟩) 1 1] (wr.alloc (.cells #[.string s] 9)) fun e w' => ∃ (code : Int) (vl' : List VRow), e = .returned (.int .i64 code) ∧ St vl' ∧ Cat w' cb tb vb [([116], T)] vl' ∧ Below w.heap.size w w' := by
  have hc' := hc.kept (Kept.alloc wr (.cells #[.string s] 9))
  have hb' := hb.alloc hb.size (.cells #[.string s] 9)
  have hsz : ((⟨#[119]⟩ : ByteArray) ++ s).size ≤ maxLen := by
    have : ((⟨#[119]⟩ : ByteArray) ++ s).size = s.size + 1 := by
      show ((⟨#[119]⟩ : ByteArray) ++ s).data.size = s.data.size + 1
      rw [← Array.length_toList, wS_list]; simp
    omega
  have hcell : ∀ j, j < [s].length → (wr.alloc (.cells #[.string s] 9)).cell? ⟨wr.heap.size, 0 + j, none⟩ = some (.string ([s].getD j .empty)) := fun j hj => by
    obtain rfl : j = 0 := by simpa using hj
    exact cell_new _ _ _ _ _ _ rfl rfl
  have hsizes : ∀ j, ([s].getD j .empty).size ≤ maxLen := fun j => by
    cases j with
    | zero => exact Nat.le_of_lt hs
    | succ j => exact Nat.zero_le _
  have hne : ([116] : Bs) ≠ 119 :: s.data.toList := by intro h; simp at h
  have hl8 : vl.length < 8 := by rcases hst with rfl | ⟨v, rfl⟩ <;> simp
  by_cases hs1 : s.data.toList = [116]
  · have hsT : s = tS := by
      apply ByteArray.ext; apply Array.ext'; rw [hs1]; rfl
    rcases hst with rfl | ⟨v, rfl⟩
    · have key := view_added hc' (⟨#[119]⟩ ++ s) hsz wr.heap.size 0 1 [s] hcell hsizes (by simp) (by rw [wS_list]; simp [lk, hne, vpairs]) hl8 (fun j hj => by
        obtain rfl : j = 0 := by simpa using hj
        show (lk [([116], T)] s.data.toList).isSome = true
        rw [hs1]; rfl)
      refine key.mono fun e w' ⟨h1, v', h2, h3⟩ => ⟨0, _, h1, ?_, h2, hb'.grown h3 hb'.size (fun k hk => by cases hk; exact hv)⟩
      rw [wS_list, hs1, hsT]
      exact St.some v'
    · have key := view_taken hc' (⟨#[119]⟩ ++ s) hsz (.slice (some ⟨wr.heap.size, 0, none⟩) 1 1) (by rw [wS_list, hs1]; simp [lk, vpairs])
      exact key.mono fun e w' ⟨h1, h2⟩ => ⟨7, _, h1, St.some v, hc'.kept h2.block, hb'.trans (h2.mono hb'.size)⟩
  · have hnone : ((lk [([116], T)] ((⟨#[119]⟩ : ByteArray) ++ s).data.toList).isSome || (lk (vpairs vl) ((⟨#[119]⟩ : ByteArray) ++ s).data.toList).isSome) = false := by
      rw [wS_list]
      rcases hst with rfl | ⟨v, rfl⟩
      · simp [lk, hne, vpairs]
      · have : ([119, 116] : Bs) ≠ 119 :: s.data.toList := by intro h; simp at h; exact hs1 h.symm
        simp [lk, hne, vpairs, this]
    have key := view_miss hc' (⟨#[119]⟩ ++ s) hsz wr.heap.size 0 1 [s] hcell hsizes (by simp) hnone hl8 0 ⟨by simp, by show (lk [([116], T)] s.data.toList).isSome = false; simp [lk, Ne.symm hs1], fun j hj => by omega⟩
    exact key.mono fun e w' ⟨h1, h2⟩ => ⟨6, vl, h1, hst, hc'.kept h2.block, hb'.trans (h2.mono hb'.size)⟩
theorem f_calls (hc : Cat wr cb tb vb [([116], T)] vl) (hb : Below w.heap.size w wr) (ht : w.heap.size ≤ tb) (hu : (usersOf vl ⟨#[116]⟩).length = 0) :
    Calls Try.prog 10 #[.pointer (some ⟨cb, 0, none⟩), .string ⟨#[116]⟩] wr fun e w' => e = .returned (.int .i64 0) ∧ Below w.heap.size w w' :=
  (drop_free hc ⟨#[116]⟩ (by unfold maxLen; decide) rfl hu).mono fun _ _ ⟨h1, _, h3⟩ => ⟨h1, hb.grown h3 hb.size (fun k hk => by cases hk; exact ht)⟩
end
section
set_option maxRecDepth 100000 in
set_option maxHeartbeats 1000000 in
theorem uses_calls (w : World) (a : Option Addr) (c0 : Nat) (ns : List ByteArray) (hnl : ns.length ≤ 9223372036854775806) (hns : ∀ i, i < ns.length → ∃ b off, a = some ⟨b, off, none⟩ ∧ w.cell? ⟨b, off + i, none⟩ = some (.string (ns.getD i .empty)) ∧ (ns.getD i .empty).size < 140737488355328) (q : Int) (hq0 : 0 ≤ q) (hq : q ≤ 255) :
    Calls Try.prog 3 #[.slice a ns.length c0, .int .u8 q] w fun e w' => e = .returned (.bool true) ∧ Below w.heap.size w w' := by
  have c5 := speaks_calls w
  have c6 : ∀ w1, Below w.heap.size w w1 → Calls Try.prog 6 #[] w1 fun e w2 => e = .returned (.pointer (some ⟨w1.heap.size + 2, 0, none⟩)) ∧ Cat w2 (w1.heap.size + 2) w1.heap.size (w1.heap.size + 1) [] [] ∧ Below w.heap.size w w2 := fun w1 hb =>
    (new_calls w1).mono fun e w2 ⟨h1, h2, h3⟩ => ⟨h1, h2, hb.trans (h3.mono hb.size)⟩
  have c7 : ∀ w2 cb tb vb, Cat w2 cb tb vb [] [] → w.heap.size ≤ tb → Below w.heap.size w w2 → Calls Try.prog 7 #[.pointer (some ⟨cb, 0, none⟩), .string ⟨#[116]⟩, .slice (some ⟨w2.heap.size, 0, none⟩) 1 1] (w2.alloc (.cells #[.string ⟨#[107]⟩, .int .i64 1, .bool true] 29)) fun e w3 => e = .returned (.int .i64 0) ∧
      (∃ T, Cat w3 cb tb vb [([116], T)] []) ∧ Below w.heap.size w w3 := fun w2 cb tb vb hc ht hb =>
    (make_one hc ⟨#[107]⟩ (by unfold maxLen; decide) 1 rfl).mono fun e w3 ⟨h1, ⟨p, l, k, h2, _⟩, h3⟩ => ⟨h1, ⟨_, h2⟩, hb.grown h3 hb.size (fun k hk => by cases hk; exact ht)⟩
  obtain ⟨n, hn, hqn⟩ : ∃ n : Nat, n < 9 ∧ q % 9 = (n : Int) := ⟨(q % 9).toNat, by omega, by omega⟩
  go_enter Try.func3, Try.ntmps3
  go_wp2_with (first
    | (go_at_call 5; refine c5.mono ?_; rintro e w1 ⟨rfl, hb1⟩; have d6 := c6 w1 hb1)
    | (go_at_call 6; refine d6.mono ?_; rintro e w2 ⟨rfl, hc2, hb2⟩; have d7 := c7 w2 _ _ _ hc2 hb1.size hb2)
    | (go_at_call 7; refine d7.mono ?_; rintro e w3 ⟨rfl, ⟨T, hc3⟩, hb3⟩))
  have hts : w.heap.size ≤ w1.heap.size := hb1.size
  have hvs : w.heap.size ≤ w1.heap.size + 1 := Nat.le_succ_of_le hts
  clear d6 d7 c5 c6 c7 hc2
  generalize w1.heap.size + 2 = cb at *
  generalize w1.heap.size + 1 = vb at *
  generalize w1.heap.size = tb at *
  rw [hqn]
  go_loopw [7] (fun i wr => ∃ (j : Nat) (vl : List VRow), j ≤ n ∧ i = .int .i64 j ∧ Cat wr cb tb vb [([116], T)] vl ∧ vl.map (·.name) = (List.range j).map vn ∧ (∀ x ∈ vl, x.uses = [tS, tS]) ∧ Below w.heap.size w wr) (fun i _ => n - (intOf i).toNat)
  case atStart => exact ⟨0, [], by omega, rfl, hc3, rfl, by simp, hb3⟩
  case round =>
    obtain ⟨j, vl, hj, rfl, hc, hnm, hus, hbr⟩ := hrel
    by_cases e : j < n
    · have ad := added_j (w := w) (by omega) hc hnm hvs hbr (.cells #[.int .u8 (48 + (j : Int))] 5)
      have bs := byteStr wr j
      have hj9 : j < 9 := by omega
      have hus2 : ∀ v', ∀ x ∈ vl ++ [⟨vn j, v', [tS, tS]⟩], x.uses = [tS, tS] := fun v' x hx => by
        rcases List.mem_append.1 hx with hx | hx
        · exact hus x hx
        · simp at hx; subst hx; rfl
      clear hus
      go_wp2_with (go_at_call 8; refine ad.mono ?_; rintro e w4 ⟨rfl, ⟨v', hc4⟩, hb4⟩)
      go_roundw
      case rel => exact ⟨j + 1, _, by omega, by go_num, hc4, by rw [List.map_append, hnm, List.range_succ, List.map_append]; rfl, hus2 v', hb4⟩
      case measure => simp [intOf]; omega
    · have hjn : j = n := by omega
      subst hjn
      clear hj e
      have hnm' : vl.map (·.name) = (List.range' 0 j).map vn := by rw [hnm, List.range_eq_range']
      clear hnm
      go_wp2
      go_loopw [8] (fun i wr => ∃ (i0 m : Nat) (vl : List VRow), j = i0 + m ∧ i = .int .i64 i0 ∧ Cat wr cb tb vb [([116], T)] vl ∧ vl.map (·.name) = (List.range' i0 m).map vn ∧ (∀ x ∈ vl, x.uses = [tS, tS]) ∧ Below w.heap.size w wr) (fun i _ => j - (intOf i).toNat)
      case atStart => exact ⟨0, j, vl, by omega, rfl, hc, hnm', hus, hbr⟩
      case round =>
        clear hc hus hbr hnm'
        obtain ⟨i0, m, vl, hjm, rfl, hc, hnm, hus, hbr⟩ := hrel
        cases m with
        | succ m =>
          have hlt : i0 < j := by omega
          have hul : (usersOf vl ⟨#[116]⟩).length = m + 1 := by
            rw [users_all hus]
            have := congrArg List.length hnm
            simpa using this
          have hsome := names_some hnm
          have hnext := names_next (by omega) hnm
          have hus2 : ∀ x ∈ vl.filter fun x => !decide (x.name = vn i0), x.uses = [tS, tS] := fun x hx => hus x (List.mem_filter.1 hx).1
          have cu : Calls Try.prog 9 #[.pointer (some ⟨cb, 0, none⟩), .string ⟨#[116]⟩] wr fun e w' => (∃ p c, e = .returned (.slice p (m + 1) c)) ∧ Cat w' cb tb vb [([116], T)] vl ∧ Below w.heap.size w w' := by
            have := u_calls hc hbr ⟨#[116]⟩
            rwa [hul] at this
          have cd := fun w1 hc1 hb1 => d_calls (w := w) (wr := w1) (cb := cb) (tb := tb) (vb := vb) (T := T) (vl := vl) hc1 hb1 (by rw [hul]; omega)
          have cm := fun w1 hc1 hb1 o => m_calls (w := w) (wr := w1) (cb := cb) (tb := tb) (vb := vb) (T := T) (vl := vl) hc1 hb1 hsome o
          have cv := fun w1 hc1 hb1 o => v_calls (w := w) (wr := w1) (cb := cb) (tb := tb) (vb := vb) (T := T) (vl := vl) hc1 hb1 hvs hsome o
          have hdiff : (j : Int) - (i0 : Int) = ((m + 1 : Nat) : Int) := by omega
          have hj9 : i0 < 9 := by omega
          have hjm2 : j = i0 + 1 + m := by omega
          have H1 := Lib.hid hjm2
          have H2 := Lib.hid hnext
          clear hul hus hnm hjm hsome hjm2 hnext
          go_wp2_with (first
            | (go_at_call 9; refine cu.mono ?_; rintro e w4 ⟨⟨p, c, rfl⟩, hc4, hb4⟩; have cd := cd w4 hc4 hb4)
            | (go_at_call 10; refine cd.mono ?_; rintro e w5 ⟨rfl, hc5, hb5⟩; have bs5 := byteStr w5 i0; have cm := cm w5 hc5 hb5)
            | (go_at_call 7; refine (cm _).mono ?_; rintro e w6 ⟨rfl, hc6, hb6⟩; have bs6 := byteStr w6 i0; have cv := cv w6 hc6 hb6)
            | (go_at_call 11; refine (cv _).mono ?_; rintro e w7 ⟨rfl, hc7, hb7⟩))
          go_roundw
          case rel => exact ⟨i0 + 1, m, _, H1.out, by go_num, hc7, H2.out, hus2, hb7⟩
          case measure =>
            have : j - (i0 + 1) < j - i0 := by omega
            exact this
        | zero =>
          have hv0 : vl = [] := by simpa using hnm
          subst hv0
          obtain rfl : j = i0 := by omega
          clear hjm hnm hus
          go_wp2
          go_loopw [9] (fun i wr => ∃ (k : Nat) (vl : List VRow), k ≤ ns.length ∧ k ≤ 9 ∧ i = .int .i64 k ∧ Cat wr cb tb vb [([116], T)] vl ∧ St vl ∧ Below w.heap.size w wr) (fun i _ => 9 - (intOf i).toNat)
          case atStart => exact ⟨0, [], by omega, by omega, rfl, hc, .inl rfl, hbr⟩
          case round =>
            clear hc hbr
            obtain ⟨k, vl, hk1, hk9, rfl, hc, hst, hbr⟩ := hrel
            by_cases e1 : k < ns.length
            · by_cases e2 : k < 9
              · obtain ⟨b, off, rfl, hcell, hsz⟩ := hns k e1
                have hcr : wr.cell? ⟨b, off + k, none⟩ = some (.string (ns.getD k .empty)) := by rw [cell_same (hbr.block _ (cell_lt hcell))]; exact hcell
                have hbl := cell_lt hcr
                clear hns hcell
                generalize ns.getD k .empty = s at *
                have sc := s_calls (w := w) (wr := wr.drew) (hc.kept (fun _ _ => rfl)) hst hbr.drew hvs s (by unfold maxLen; omega)
                have hs1 : ¬ 9223372036854775807 < 1 + s.size := by omega
                clear hsz
                go_wp2
                go_region_with (go_at_call 8; refine sc.mono ?_; rintro e w4 ⟨code, vl', rfl, hst4, hc4, hb4⟩)
                all_goals
                  go_wp2
                  go_roundw
                  case rel => exact ⟨k + 1, vl', by omega, by omega, by go_num, hc4, hst4, hb4⟩
                  case measure =>
                    have : 9 - (k + 1) < 9 - k := by omega
                    exact this
              · rcases hst with rfl | ⟨v, rfl⟩
                · have cu : Calls Try.prog 9 #[.pointer (some ⟨cb, 0, none⟩), .string ⟨#[116]⟩] wr fun e w' => (∃ p c, e = .returned (.slice p 0 c)) ∧ Cat w' cb tb vb [([116], T)] [] ∧ Below w.heap.size w w' := u_calls hc hbr ⟨#[116]⟩
                  have cf := fun w4 hc4 hb4 => f_calls (w := w) (wr := w4) (cb := cb) (tb := tb) (vb := vb) (T := T) (vl := []) hc4 hb4 hts rfl
                  clear hns
                  go_wp2_with (first
                    | (go_at_call 9; refine cu.mono ?_; rintro e w4 ⟨⟨p, c, rfl⟩, hc4, hb4⟩; have cf := cf w4 hc4 hb4)
                    | (go_at_call 10; refine cf.mono ?_; rintro e w5 ⟨rfl, hb5⟩))
                  go_ret
                  exact ⟨rfl, hb5⟩
                · have cu : Calls Try.prog 9 #[.pointer (some ⟨cb, 0, none⟩), .string ⟨#[116]⟩] wr fun e w' => (∃ p c, e = .returned (.slice p 1 c)) ∧ Cat w' cb tb vb [([116], T)] [⟨[119, 116], v, [tS]⟩] ∧ Below w.heap.size w w' := u_calls hc hbr ⟨#[116]⟩
                  have cf := fun w4 hc4 hb4 => d_calls (w := w) (wr := w4) (cb := cb) (tb := tb) (vb := vb) (T := T) (vl := [⟨[119, 116], v, [tS]⟩]) hc4 hb4 (Nat.lt_of_lt_of_eq Nat.zero_lt_one rfl)
                  clear hns
                  go_wp2_with (first
                    | (go_at_call 9; refine cu.mono ?_; rintro e w4 ⟨⟨p, c, rfl⟩, hc4, hb4⟩; have cf := cf w4 hc4 hb4)
                    | (go_at_call 10; refine cf.mono ?_; rintro e w5 ⟨rfl, hc5, hb5⟩))
                  go_ret
                  exact ⟨rfl, hb5⟩
            · rcases hst with rfl | ⟨v, rfl⟩
              · have cu : Calls Try.prog 9 #[.pointer (some ⟨cb, 0, none⟩), .string ⟨#[116]⟩] wr fun e w' => (∃ p c, e = .returned (.slice p 0 c)) ∧ Cat w' cb tb vb [([116], T)] [] ∧ Below w.heap.size w w' := u_calls hc hbr ⟨#[116]⟩
                have cf := fun w4 hc4 hb4 => f_calls (w := w) (wr := w4) (cb := cb) (tb := tb) (vb := vb) (T := T) (vl := []) hc4 hb4 hts rfl
                clear hns
                go_wp2_with (first
                  | (go_at_call 9; refine cu.mono ?_; rintro e w4 ⟨⟨p, c, rfl⟩, hc4, hb4⟩; have cf := cf w4 hc4 hb4)
                  | (go_at_call 10; refine cf.mono ?_; rintro e w5 ⟨rfl, hb5⟩))
                go_ret
                exact ⟨rfl, hb5⟩
              · have cu : Calls Try.prog 9 #[.pointer (some ⟨cb, 0, none⟩), .string ⟨#[116]⟩] wr fun e w' => (∃ p c, e = .returned (.slice p 1 c)) ∧ Cat w' cb tb vb [([116], T)] [⟨[119, 116], v, [tS]⟩] ∧ Below w.heap.size w w' := u_calls hc hbr ⟨#[116]⟩
                have cf := fun w4 hc4 hb4 => d_calls (w := w) (wr := w4) (cb := cb) (tb := tb) (vb := vb) (T := T) (vl := [⟨[119, 116], v, [tS]⟩]) hc4 hb4 (Nat.lt_of_lt_of_eq Nat.zero_lt_one rfl)
                clear hns
                go_wp2_with (first
                  | (go_at_call 9; refine cu.mono ?_; rintro e w4 ⟨⟨p, c, rfl⟩, hc4, hb4⟩; have cf := cf w4 hc4 hb4)
                  | (go_at_call 10; refine cf.mono ?_; rintro e w5 ⟨rfl, hc5, hb5⟩))
                go_ret
                exact ⟨rfl, hb5⟩
end
end Go.Proofs.Ytcappldcngolkaa
