/- The abstract machine, part 32: the package-level variables that a row lists, as the machine holds them. -/
import Derived.Test.YtfkhhbjdlgklnaaGreatDoorMD
import Derived.WideKeyMaps
import Derived.Lib.MakeNoZero
import Derived.Lib.LaidTab
namespace Go.AM
open Go Go.RowKit
noncomputable section

/-! ### Adding what is only read -/
theorem Rel.addRO {γ : Gam} {B : Nat} {H : AHeap} {w : World} (r : Rel γ B H w) {x : Nat} {g : G} {o : AObj} (hx : γ x = none) (hlt : g.b < w.heap.size) (hro : o.own = false) (ho : ORel (γ.put x g) g w.heap[g.b]? o) (hsep : ∀ y gy oy, γ y = some gy → H.get y = some oy → oy.own = true → gy.b ≠ g.b) :
    Rel (γ.put x g) B (H.put x o) w := by
  have hle := Gam.le_put (g := g) hx
  refine ⟨fun y gy hy => ?_, fun y gy hy => ?_, fun y gy oy hy h => ?_, fun y gy oy hy h hw => ?_, fun y z gy gz oy oz hy hz h1 h2 a1 a2 hne => ?_, r.base⟩
  · rw [AHeap.put_next]
    by_cases e : y = x
    · subst e; omega
    · rw [Gam.put_other _ _ e] at hy; have := r.dom y gy hy; omega
  · by_cases e : y = x
    · subst e; rw [Gam.put_same] at hy; cases hy; exact hlt
    · rw [Gam.put_other _ _ e] at hy; exact r.lt y gy hy
  · rw [AHeap.get_put] at h
    by_cases e : y = x
    · subst e; rw [Gam.put_same] at hy; cases hy; rw [if_pos rfl] at h; cases h; exact ho
    · rw [Gam.put_other _ _ e] at hy; rw [if_neg e] at h; exact (r.obj y gy oy hy h).mono hle
  · rw [AHeap.get_put] at h
    by_cases e : y = x
    · subst e; rw [if_pos rfl] at h; cases h; rw [hro] at hw; cases hw
    · rw [Gam.put_other _ _ e] at hy; rw [if_neg e] at h; exact r.own y gy oy hy h hw
  · rw [AHeap.get_put] at h1 h2
    by_cases e1 : y = x
    · subst e1; rw [if_pos rfl] at h1; cases h1; rw [hro] at a1; cases a1
    · rw [if_neg e1] at h1
      rw [Gam.put_other _ _ e1] at hy
      by_cases e2 : z = x
      · subst e2; rw [Gam.put_same] at hz; cases hz; exact hsep y gy oy hy h1 a1
      · rw [if_neg e2] at h2; rw [Gam.put_other _ _ e2] at hz
        exact r.inj y z gy gz oy oz hy hz h1 h2 a1 a2 hne

/-! ### A map from strings to integers -/
def cvE (x : Lit × DataW Unit) : ByteArray × Value := (match x.1 with
  | .string b => ⟨b.toArray⟩
  | _ => .empty, match x.2 with
  | .lit (.int k n) => .int k n
  | _ => unk)

theorem insert_perm (x : Lit × DataW Unit) : ∀ l : List (Lit × DataW Unit), (DataW.insert x l).Perm (x :: l)
  | [] => .refl _
  | y :: r => by
    rw [DataW.insert]
    split
    · exact .refl _
    · exact ((insert_perm x r).cons y).trans (.swap x y r)
theorem foldr_perm : ∀ l : List (Lit × DataW Unit), (l.foldr DataW.insert []).Perm l
  | [] => .refl _
  | x :: l => (insert_perm x _).trans ((foldr_perm l).cons x)

theorem CmRel.perm {γ : Gam} {l l' : List (ByteArray × Value)} (hp : l'.Perm l) : ∀ {p : List MapEntry}, CmRel γ l p → ∃ p', p'.Perm p ∧ CmRel γ l' p' := by
  induction hp with
  | nil => intro p h; exact ⟨p, .refl _, h⟩
  | cons x _ ih =>
    intro p h
    cases h with
    | cons hk hv h =>
      obtain ⟨p', h1, h2⟩ := ih h
      exact ⟨_ :: p', h1.cons _, .cons hk hv h2⟩
  | swap x y l =>
    intro p h
    cases h with
    | cons hk hv h => cases h with
      | cons hk' hv' h => exact ⟨_ :: _ :: _, .swap _ _ _, .cons hk' hv' (.cons hk hv h)⟩
  | trans _ _ ih1 ih2 =>
    intro p h
    obtain ⟨p1, h1, h2⟩ := ih2 h
    obtain ⟨p2, h3, h4⟩ := ih1 h2
    exact ⟨p2, h3.trans h1, h4⟩

section
variable {P : Program} {w : World} {γ : Gam}

theorem rd_string {k : TypeId} {kd : IntKind} (hk : P.underlying k = some .string) {x : MapEntry} {y : Lit × DataW Unit} (h : WideMaps.rd (H := Unit) P k kd x = some y) :
    x.key = .string (cvE y).1 ∧ ∃ n, x.val = .int kd n ∧ (cvE y).2 = .int kd n := by
  unfold WideMaps.rd at h
  obtain ⟨key, h1, h2⟩ := Option.bind_eq_some_iff.1 h
  obtain ⟨d, h3, rfl⟩ := Option.map_eq_some_iff.1 h2
  have e : keyOf P k x.key = mapKey P k x.key := by unfold keyOf; simp [hk]
  rw [e] at h1
  unfold mapKey at h1
  rw [hk] at h1
  constructor
  · cases hx : x.key <;> rw [hx] at h1 <;> first | (simp at h1; done) | skip
    rename_i s
    simp only at h1
    split at h1
    · cases h1; rfl
    · cases h1
  · cases hx : x.val <;> rw [hx] at h3 <;> first | (simp [ChangeMaps.rdv] at h3; done) | skip
    rename_i k' n
    simp [ChangeMaps.rdv] at h3
    obtain ⟨⟨rfl, _⟩, rfl⟩ := h3
    exact ⟨n, rfl, rfl⟩

theorem cm_of_rd {k : TypeId} {kd : IntKind} (hk : P.underlying k = some .string) : ∀ {l : List MapEntry} {E : List (Lit × DataW Unit)}, l.mapM (WideMaps.rd (H := Unit) P k kd) = some E → CmRel γ (E.map cvE) l
  | [], E, h => by simp at h; subst h; exact .nil
  | x :: l, E, h => by
    simp only [List.mapM_cons, Option.bind_eq_bind, Option.bind_eq_some_iff, Option.pure_def, Option.some.injEq] at h
    obtain ⟨y, hy, E', hE, rfl⟩ := h
    obtain ⟨h1, n, h2, h3⟩ := rd_string hk hy
    have hv : VRel γ (cvE y).2 x.val := by rw [h2, h3]; exact .int _ _
    exact .cons h1 hv (cm_of_rd hk hE)

theorem map_laid {sp : Nat → Bool} {t k e : TypeId} {kd : IntKind} {cs : List Value} {ents : List (Lit × DataW Unit)} {p : List MemPlace} (ht : P.underlying t = some (.map k e)) (hk : P.underlying k = some .string) (he : P.underlying e = some (.int kd))
    {fuel : Nat} (h : DataW.trod (fun _ => ()) P w 0 sp false fuel t cs = some (.map ents, p)) :
    ∃ b es clock q, cs = [.map (some b)] ∧ w.heap[b]? = some (.map es clock) ∧ q.Perm es.toList ∧ CmRel γ (ents.map cvE) q := by
  obtain ⟨b, rfl⟩ : ∃ b, cs = [.map (some b)] := by
    cases fuel with
    | zero => simp [DataW.trod] at h
    | succ fuel =>
      simp only [DataW.trod, ht] at h
      split at h <;> first | (cases h; done) | skip
      all_goals first | (rename_i hh; cases hh; done) | skip
      · exact ⟨_, rfl⟩
  cases hb : w.heap[b]? with
  | none =>
    cases fuel with
    | zero => simp [DataW.trod] at h
    | succ fuel => simp [DataW.trod, ht, hb] at h
  | some o =>
    obtain ⟨es, clock, rfl⟩ : ∃ es clock, o = .map es clock := by
      cases fuel with
      | zero => simp [DataW.trod] at h
      | succ fuel => cases o <;> first | exact ⟨_, _, rfl⟩ | (simp [DataW.trod, ht, hb] at h; done)
    cases fuel with
    | zero => simp [DataW.trod] at h
    | succ fuel =>
      cases fuel with
      | zero =>
        obtain ⟨l⟩ := es
        cases l with
        | nil =>
          simp [DataW.trod, ht, hb] at h
          obtain ⟨_, rfl, _⟩ := h
          exact ⟨b, _, clock, [], rfl, hb, .refl _, .nil⟩
        | cons x l =>
          simp [DataW.trod, ht, hb] at h
      | succ fuel =>
        rw [WideMaps.trod_map_ints ht he fuel b hb] at h
        split at h
        · obtain ⟨E, hE, h⟩ := Option.bind_eq_some_iff.1 h
          split at h
          · cases h
            have hc := cm_of_rd (γ := γ) hk hE
            obtain ⟨q, h1, h2⟩ := hc.perm ((foldr_perm E).map cvE)
            exact ⟨b, es, clock, q, rfl, hb, h1, h2⟩
          · cases h
        · cases h
end
end
end Go.AM

/- The abstract machine, part 33: a program's tables as tries; what the machine is of a program. -/
namespace Go.AM
open Go Go.RowKit
noncomputable section

theorem of_range {α : Type} {T : PT α} {a : Array α} {n : Nat} (hn : a.size = n) (h : (List.range n).map T.get = a.toList.map some) {i : Nat} (hi : i < n) : T.get i = a[i]? := by
  have h1 : ((List.range n).map T.get)[i]? = (a.toList.map some)[i]? := by rw [h]
  have hi' : i < a.size := by omega
  simp [hi, hi'] at h1
  rw [h1]
  simp [hi']

/-- A program's tables. -/
def mkCx (P : Program) (iT : PT TypeInfo) (fT : PT Func) (nt nf : Nat) : Cx := ⟨fun t => bif Nat.blt t nt then iT.get t else P.info? t, fun f => bif Nat.blt f nf then fT.get f else none⟩
theorem mkCx_fits {P : Program} {iT : PT TypeInfo} {fT : PT Func} {nt nf : Nat} (h1 : P.types.size = nt) (h2 : (List.range nt).map iT.get = P.types.toList.map some) (h3 : P.funcs.size = nf) (h4 : (List.range nf).map fT.get = P.funcs.toList.map some) :
    (mkCx P iT fT nt nf).Fits P := by
  refine ⟨fun t => ?_, fun f => ?_⟩
  · simp only [mkCx]
    cases h : Nat.blt t nt with
    | false => rfl
    | true =>
      rw [Nat.blt_eq] at h
      rw [cond_true, of_range h1 h2 h]
      show P.types[t]? = P.toTables.info? t
      unfold Tables.info?
      rw [if_pos (show t < P.toTables.types.size by rw [show P.toTables.types.size = nt from h1]; exact h)]
  · simp only [mkCx]
    cases h : Nat.blt f nf with
    | false =>
      have : ¬ f < nf := fun hh => by rw [← Nat.blt_eq, h] at hh; cases hh
      rw [cond_false, Array.getElem?_eq_none (by omega)]
    | true =>
      rw [Nat.blt_eq] at h
      rw [cond_true, of_range h3 h4 h]
end
end Go.AM

/- The abstract machine, part 34: an array that a row lists, cell for cell. -/
namespace Go.AM
open Go Go.RowKit
noncomputable section

theorem arr_laid {P : Program} {w : World} {sp : Nat → Bool} {fuel : Nat} {t e : TypeId} {n : Nat} {cs : List Value} {ds : List (DataW Unit)} {p : List MemPlace}
    (ht : P.underlying t = some (.array n e)) (hce : P.cellsOf e = 1) (hct : P.cellsOf t = n)
    (h : DataW.trod (fun _ => ()) P w 0 sp false fuel t cs = some (.agg ds, p)) : cs.length = ds.length ∧ ∀ (i : Nat) d, ds[i]? = some d → ∃ c p' fuel', cs[i]? = some c ∧ DataW.trod (fun _ => ()) P w 0 sp false fuel' e [c] = some (d, p') := by
  cases fuel with
  | zero => simp [DataW.trod] at h
  | succ fuel =>
    simp only [DataW.trod, ht, hce, hct, Nat.mul_one] at h
    split at h
    · rename_i hl
      obtain ⟨xs, hm, hx⟩ := Option.map_eq_some_iff.1 h
      have hxs : xs.map (·.1) = ds := by
        have := congrArg Prod.fst hx
        simpa using this
      have hxl : xs.length = n := by simpa using Lib.mapM_length hm
      have hdl : ds.length = n := by rw [← hxs]; simp [hxl]
      refine ⟨by omega, fun i d hi => ?_⟩
      have hin : i < n := by
        have := (List.getElem?_eq_some_iff.1 hi).1
        omega
      obtain ⟨b, hb, hf⟩ := Lib.mapM_at hm i i (by simp [hin])
      have hd : b.1 = d := by
        rw [← hxs] at hi
        simp [hb] at hi
        exact hi
      have hci : i < cs.length := by omega
      refine ⟨cs[i], b.2, fuel, List.getElem?_eq_getElem hci, ?_⟩
      have : (cs.drop i).take 1 = [cs[i]] := by
        rw [List.drop_eq_getElem_cons hci]
        rfl
      rw [this] at hf
      rw [hf, ← hd]
    · cases h

theorem str_laid {P : Program} {w : World} {sp : Nat → Bool} {fuel : Nat} {t : TypeId} {c : Value} {b : List UInt8} {p : List MemPlace} (ht : P.underlying t = some .string)
    (h : DataW.trod (fun _ => ()) P w 0 sp false fuel t [c] = some (.lit (.string b), p)) : c = .string ⟨b.toArray⟩ := by
  cases fuel with
  | zero => simp [DataW.trod] at h
  | succ fuel =>
    cases c <;> simp [DataW.trod, ht] at h
    obtain ⟨_, rfl, _⟩ := h
    rfl

theorem strs_laid {P : Program} {w : World} {sp : Nat → Bool} {fuel : Nat} {t e : TypeId} {n : Nat} {cs : List Value} {bs : List (List UInt8)} {p : List MemPlace}
    (ht : P.underlying t = some (.array n e)) (he : P.underlying e = some .string) (hce : P.cellsOf e = 1) (hct : P.cellsOf t = n)
    (h : DataW.trod (fun _ => ()) P w 0 sp false fuel t cs = some (.agg (bs.map fun b => .lit (.string b)), p)) : cs = bs.map fun b => Value.string ⟨b.toArray⟩ := by
  obtain ⟨h1, h2⟩ := arr_laid ht hce hct h
  apply List.ext_getElem?
  intro i
  cases hb : bs[i]? with
  | none =>
    have : bs.length ≤ i := List.getElem?_eq_none_iff.1 hb
    rw [List.getElem?_eq_none (by simp at h1; omega), List.getElem?_eq_none (by simpa using this)]
  | some b =>
    obtain ⟨c, p', f', h3, h4⟩ := h2 i (.lit (.string b)) (by simp [hb])
    rw [h3, str_laid he h4]
    simp [hb]

/-- A package-level variable's block. -/
theorem var_block {P : Program} {w : World} {n : String} {g : Nat} {cs : Array Value} (hg : P.globalNamed n = some g) (h : w.var? P n = some cs) : ∃ e fz, w.heap[g]? = some (.cells cs e fz) := by
  simp only [World.var?, hg, Option.bind_some] at h
  split at h
  · rename_i c e fz hb
    cases h
    exact ⟨e, fz, hb⟩
  · cases h

/-- A heap of what is only read, as a world holds it. -/
structure RO (γ : Gam) (B : Nat) (H : AHeap) (w : World) : Prop where
  rel : Rel γ B H w
  ro : ∀ x o, H.get x = some o → o.own = false

theorem RO.base {B n : Nat} {w : World} (h : B ≤ w.heap.size) : RO (fun _ => none) B ⟨n, .nil⟩ w :=
  ⟨⟨fun _ _ h => (by cases h), fun _ _ h => (by cases h), fun _ _ _ h => (by cases h), fun _ _ _ h => (by cases h), fun _ _ _ _ _ _ h => (by cases h), h⟩, fun x o h => (by simp [AHeap.get, PT.get_nil] at h)⟩

theorem RO.add {γ : Gam} {B : Nat} {H : AHeap} {w : World} (r : RO γ B H w) {x : Nat} {g : G} {o : AObj} (hx : γ x = none) (hlt : g.b < w.heap.size) (hro : o.own = false) (ho : ORel (γ.put x g) g w.heap[g.b]? o) : RO (γ.put x g) B (H.put x o) w := by
  refine ⟨r.rel.addRO hx hlt hro ho fun y gy oy _ h1 h2 => (by rw [r.ro y oy h1] at h2; cases h2), fun y oy h => ?_⟩
  rw [AHeap.get_put] at h
  by_cases e : y = x
  · rw [if_pos e] at h; cases h; exact hro
  · rw [if_neg e] at h; exact r.ro y oy h

theorem RO.addMap {γ : Gam} {B : Nat} {H : AHeap} {w : World} (r : RO γ B H w) {x b : Nat} (hx : γ x = none) {es : Array MapEntry} {clock : Nat} {q : List MapEntry} {l : List (ByteArray × Value)} (hb : w.heap[b]? = some (.map es clock)) (hq : q.Perm es.toList)
    (hc : ∀ γ', CmRel γ' l q) (hn : (l.map (·.1)).Nodup) : RO (γ.put x ⟨b, 0, 0⟩) B (H.put x (.cmap l)) w :=
  r.add hx ((Array.getElem?_eq_some_iff.1 hb).1) rfl ⟨es, clock, q, hb, hq, hc _, hn⟩

theorem RO.addCells {γ : Gam} {B : Nat} {H : AHeap} {w : World} (r : RO γ B H w) {g : Nat} (hx : γ g = none) {cs : Array Value} {e : TypeId} {fz : Nat × Nat} {l : List Value} (hb : w.heap[g]? = some (.cells cs e fz)) (hv : VsRel (γ.put g ⟨g, 0, cs.size⟩) l cs.toList) :
    RO (γ.put g ⟨g, 0, cs.size⟩) B (H.put g (.cells l 0 0)) w :=
  r.add hx ((Array.getElem?_eq_some_iff.1 hb).1) rfl ⟨cs, fz, .inr ⟨rfl, _, hb⟩, fun h => (by cases h), fun h => (by cases h), (by simp), (by have := hv.length; simp at this; exact Nat.le_of_eq this), fun i v hi => .inr (by
    obtain ⟨v', h1, h2⟩ := hv.get hi
    exact ⟨v', by simpa using h1, h2⟩)⟩

theorem laidVars_mem {P : Program} {w : World} : ∀ {l : List (String × DataW Unit)} {ps : List MemPlace}, DataW.LaidVars P w l ps → ∀ {n : String} {d : DataW Unit}, (n, d) ∈ l →
    ∃ g t cs fuel p, P.globalNamed n = some g ∧ (P.globals[g]?).map (·.type) = some t ∧ w.var? P n = some cs ∧ DataW.trod (fun _ => ()) P w 0 (fun _ => true) false fuel t cs.toList = some (d, p)
  | (n', d') :: r, ps, h, n, d, hm => by
    obtain ⟨g, t, cs, fuel, p, q, h1, h2, h3, h4, h5, _⟩ := h
    rcases List.mem_cons.1 hm with e | hm
    · cases e
      exact ⟨g, t, cs, fuel, p, h1, h2, h3, h4⟩
    · exact laidVars_mem h5 hm
end
end Go.AM

/- The abstract machine, part 35: what a package-level variable that a row lists holds: strings; a map; maps. -/
namespace Go.AM
open Go Go.RowKit
noncomputable section

/-- A map from strings to integers lies in block b. -/
def MapAt (w : World) (b : Nat) (ents : List (Lit × DataW Unit)) : Prop := ∃ es clock q, w.heap[b]? = some (.map es clock) ∧ q.Perm es.toList ∧ ∀ γ, CmRel γ (ents.map cvE) q

theorem map_laid' {P : Program} {w : World} {t k e : TypeId} {kd : IntKind} {cs : List Value} {ents : List (Lit × DataW Unit)} {p : List MemPlace} {sp : Nat → Bool} (ht : P.underlying t = some (.map k e)) (hk : P.underlying k = some .string) (he : P.underlying e = some (.int kd))
    {fuel : Nat} (h : DataW.trod (fun _ => ()) P w 0 sp false fuel t cs = some (.map ents, p)) : ∃ b, cs = [.map (some b)] ∧ MapAt w b ents := by
  obtain ⟨b, es, clock, q, h1, h2, h3, h4⟩ := map_laid (γ := fun _ => none) ht hk he h
  exact ⟨b, h1, es, clock, q, h2, h3, fun γ => h4.mono fun x g hx => by cases hx⟩

section
variable {P : Program} {w : World} {l : List (String × DataW Unit)} {ps : List MemPlace} (hv : DataW.LaidVars P w l ps)
include hv

theorem strs_var {name : String} {g : Nat} {t e : TypeId} {n : Nat} {bs : List (List UInt8)} (hm : (name, .agg (bs.map fun b => .lit (.string b))) ∈ l) (hg : P.globalNamed name = some g) (hty : (P.globals[g]?).map (·.type) = some t)
    (ht : P.underlying t = some (.array n e)) (he : P.underlying e = some .string) (hce : P.cellsOf e = 1) (hct : P.cellsOf t = n) :
    ∃ (cs : Array Value) (e' : TypeId) (fz : Nat × Nat), w.heap[g]? = some (.cells cs e' fz) ∧ cs.toList = bs.map fun b => Value.string ⟨b.toArray⟩ := by
  obtain ⟨g', t', cs, fuel, p, h1, h2, h3, h4⟩ := laidVars_mem hv hm
  obtain rfl := Option.some.inj (hg.symm.trans h1)
  obtain rfl := Option.some.inj (hty.symm.trans h2)
  obtain ⟨e', fz, hb⟩ := var_block hg h3
  exact ⟨cs, e', fz, hb, strs_laid ht he hce hct h4⟩

theorem map_var {name : String} {g : Nat} {t k e : TypeId} {kd : IntKind} {ents : List (Lit × DataW Unit)} (hm : (name, .map ents) ∈ l) (hg : P.globalNamed name = some g) (hty : (P.globals[g]?).map (·.type) = some t)
    (ht : P.underlying t = some (.map k e)) (hk : P.underlying k = some .string) (he : P.underlying e = some (.int kd)) :
    ∃ (cs : Array Value) (e' : TypeId) (fz : Nat × Nat) (b : Nat), w.heap[g]? = some (.cells cs e' fz) ∧ cs.toList = [.map (some b)] ∧ MapAt w b ents := by
  obtain ⟨g', t', cs, fuel, p, h1, h2, h3, h4⟩ := laidVars_mem hv hm
  obtain rfl := Option.some.inj (hg.symm.trans h1)
  obtain rfl := Option.some.inj (hty.symm.trans h2)
  obtain ⟨e', fz, hb⟩ := var_block hg h3
  obtain ⟨b, q1, q2⟩ := map_laid' ht hk he h4
  exact ⟨cs, e', fz, b, hb, q1, q2⟩

theorem maps_var {name : String} {g : Nat} {t t1 k e : TypeId} {n : Nat} {kd : IntKind} {ms : List (List (Lit × DataW Unit))} (hm : (name, .agg (ms.map .map)) ∈ l) (hg : P.globalNamed name = some g) (hty : (P.globals[g]?).map (·.type) = some t)
    (ht : P.underlying t = some (.array n t1)) (hce : P.cellsOf t1 = 1) (hct : P.cellsOf t = n) (ht1 : P.underlying t1 = some (.map k e)) (hk : P.underlying k = some .string) (he : P.underlying e = some (.int kd)) :
    ∃ (cs : Array Value) (e' : TypeId) (fz : Nat × Nat), w.heap[g]? = some (.cells cs e' fz) ∧ cs.size = ms.length ∧ ∀ (i : Nat) ents, ms[i]? = some ents → ∃ b, cs[i]? = some (.map (some b)) ∧ MapAt w b ents := by
  obtain ⟨g', t', cs, fuel, p, h1, h2, h3, h4⟩ := laidVars_mem hv hm
  obtain rfl := Option.some.inj (hg.symm.trans h1)
  obtain rfl := Option.some.inj (hty.symm.trans h2)
  obtain ⟨e', fz, hb⟩ := var_block hg h3
  obtain ⟨q1, q2⟩ := arr_laid ht hce hct h4
  refine ⟨cs, e', fz, hb, by simpa using q1, fun i ents hi => ?_⟩
  obtain ⟨c, p', f', q3, q4⟩ := q2 i (.map ents) (by simp [hi])
  obtain ⟨b, q5, q6⟩ := map_laid' ht1 hk he q4
  cases q5
  exact ⟨b, by simpa using q3, q6⟩
end
end
end Go.AM
