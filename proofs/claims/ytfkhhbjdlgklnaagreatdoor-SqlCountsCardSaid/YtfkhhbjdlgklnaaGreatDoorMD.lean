/- The abstract machine, part 23: what the checks on a region whose order is open say. -/
import Derived.Test.YtfkhhbjdlgklnaaGreatDoorMC
import Derived.OrdersIn
import Derived.RecoverIn
namespace Go.AM
open Go Go.RowKit
noncomputable section

theorem hasBit_lor (a b k : Nat) : hasBit (Nat.lor a b) k = (hasBit a k || hasBit b k) := Nat.testBit_or a b k
theorem hasBit_pow (n k : Nat) : hasBit (2 ^ n) k = decide (n = k) := Nat.testBit_two_pow
theorem hasBit_zero (k : Nat) : hasBit 0 k = false := Nat.zero_testBit k
theorem hasBit_land (a b k : Nat) : hasBit (Nat.land a b) k = (hasBit a k && hasBit b k) := Nat.testBit_and a b k

theorem maskOf_iff : ∀ {l : List Nat} {k : Nat}, hasBit (maskOf l) k = true ↔ k ∈ l
  | [], k => by simp [maskOf, hasBit_zero]
  | i :: l, k => by
    rw [maskOf, hasBit_lor, hasBit_pow, Bool.or_eq_true, maskOf_iff, decide_eq_true_eq, List.mem_cons]
    exact or_congr eq_comm Iff.rfl

theorem subMask_spec {a b k : Nat} (h : subMask a b = true) (hk : hasBit a k = true) : hasBit b k = true := by
  unfold subMask at h
  have := Nat.eq_of_beq_eq_true h
  rw [← this, hasBit_land, Bool.and_eq_true] at hk
  exact hk.2
theorem subMask_not {a b : Nat} (h : subMask a b = false) : ∃ k, hasBit a k = true ∧ hasBit b k = false := by
  refine Classical.byContradiction fun hn => ?_
  have : Nat.land a b = a := by
    apply Nat.eq_of_testBit_eq
    intro k
    have h1 := hasBit_land a b k
    simp only [hasBit] at h1
    rw [h1]
    cases ha : Nat.testBit a k with
    | false => simp
    | true =>
      cases hb : Nat.testBit b k with
      | true => rfl
      | false => exact absurd ⟨k, ha, hb⟩ hn
  unfold subMask at h
  rw [this, Nat.beq_refl] at h
  cases h

theorem pmask_go : ∀ (l : List Edge) (m k : Nat), hasBit (l.foldl (fun m e => bif Region.binds .any e then Nat.lor m (2 ^ e.on) else m) m) k = true ↔ hasBit m k = true ∨ ∃ e ∈ l, Region.binds .any e = true ∧ e.on = k
  | [], m, k => by simp
  | e :: l, m, k => by
    rw [List.foldl_cons, pmask_go l]
    cases hb : Region.binds .any e with
    | false => simp [hb]
    | true =>
      simp only [cond_true, hasBit_lor, hasBit_pow, Bool.or_eq_true, decide_eq_true_eq, List.mem_cons, or_assoc]
      constructor
      · rintro (h | h | ⟨e', h1, h2⟩)
        · exact .inl h
        · exact .inr ⟨e, .inl rfl, hb, h⟩
        · exact .inr ⟨e', .inr h1, h2⟩
      · rintro (h | ⟨e', rfl | h1, h2, h3⟩)
        · exact .inl h
        · exact .inr (.inl h3)
        · exact .inr (.inr ⟨e', h1, h2, h3⟩)
theorem predMask_iff {o : Oper} {k : Nat} : hasBit (predMask o) k = true ↔ ∃ e ∈ o.after, Region.binds .any e = true ∧ e.on = k := by
  unfold predMask
  rw [pmask_go]
  simp [hasBit_zero]

theorem beforeMask_spec (acc : List Nat) : ∀ (l : List Edge) (m k : Nat), hasBit (beforeMask acc l m) k = true → hasBit m k = true ∨ ∃ e ∈ l, Region.binds .any e = true ∧ (e.on = k ∨ hasBit (nthD acc e.on) k = true)
  | [], m, k, h => .inl h
  | e :: l, m, k, h => by
    rw [beforeMask] at h
    rcases beforeMask_spec acc l _ k h with h | ⟨e', h1, h2⟩
    · cases hb : Region.binds .any e with
      | false => rw [hb] at h; exact .inl h
      | true =>
        rw [hb] at h
        simp only [cond_true, hasBit_lor, hasBit_pow, Bool.or_eq_true, decide_eq_true_eq] at h
        rcases h with (h | h) | h
        · exact .inl h
        · exact .inr ⟨e, .head _, hb, .inl h⟩
        · exact .inr ⟨e, .head _, hb, .inr h⟩
    · exact .inr ⟨e', .tail _ h1, h2⟩

theorem nthD_app : ∀ {acc l : List Nat} {i : Nat}, i < acc.length → nthD (acc ++ l) i = nthD acc i
  | [], _, _, h => by simp at h
  | _ :: _, _, 0, _ => rfl
  | _ :: acc, l, i + 1, h => by simp only [List.cons_append, nthD]; exact nthD_app (by simpa using h)
theorem nthD_len : ∀ {acc : List Nat} {x : Nat} {l : List Nat}, nthD (acc ++ x :: l) acc.length = x
  | [], _, _ => rfl
  | _ :: acc, x, l => by simp only [List.cons_append, List.length_cons, nthD]; exact nthD_len
theorem nthD_out : ∀ {acc : List Nat} {i : Nat}, acc.length ≤ i → nthD acc i = 0
  | [], _, _ => rfl
  | _ :: _, 0, h => by simp at h
  | _ :: acc, i + 1, h => by simp only [nthD]; exact nthD_out (by simpa using h)

/-- A set of operations with all that lies before them. -/
def Down (L : List Oper) (S : Nat → Prop) : Prop := ∀ (i : Nat) (o : Oper), L[i]? = some o → S i → ∀ e ∈ o.after, Region.binds .any e = true → S e.on

theorem befs_spec (S : Nat → Prop) : ∀ (l pre : List Oper) (acc : List Nat), Down (pre ++ l) S → acc.length = pre.length →
    (∀ (i : Nat) (o : Oper), pre[i]? = some o → (∀ e ∈ o.after, Region.binds .any e = true → S e.on) → ∀ k, hasBit (nthD acc i) k = true → S k) →
    ∀ (i : Nat) (o : Oper), (pre ++ l)[i]? = some o → (∀ e ∈ o.after, Region.binds .any e = true → S e.on) → ∀ k, hasBit (nthD (befs l acc) i) k = true → S k
  | [], pre, acc, _, _, h => by simpa [befs] using h
  | o :: l, pre, acc, hd, hlen, h => by
    have e : pre ++ o :: l = (pre ++ [o]) ++ l := by simp
    rw [e] at hd ⊢
    rw [befs]
    refine befs_spec S l (pre ++ [o]) _ hd (by simp [hlen]) fun i oi hi hpre k hk => ?_
    rcases Nat.lt_trichotomy i pre.length with hlt | rfl | hgt
    · rw [List.getElem?_append_left hlt] at hi
      rw [nthD_app (by omega)] at hk
      exact h i oi hi hpre k hk
    · simp at hi
      subst hi
      rw [← hlen, nthD_len] at hk
      rcases beforeMask_spec acc _ _ _ hk with hk | ⟨e, he, hb, rfl | hk⟩
      · rw [hasBit_zero] at hk; cases hk
      · exact hpre e (by simpa using he) hb
      · have hs := hpre e (by simpa using he) hb
        rcases Nat.lt_or_ge e.on pre.length with h' | h'
        · have ho : pre[e.on]? = some pre[e.on] := List.getElem?_eq_getElem h'
          refine h e.on _ ho (fun e' he' hb' => hd e.on pre[e.on] ?_ hs e' he' hb') k hk
          rw [List.append_assoc, List.getElem?_append_left h']; exact ho
        · rw [nthD_out (by omega), hasBit_zero] at hk; cases hk
    · rw [List.getElem?_append_right (by omega)] at hi
      cases hq : i - pre.length with
      | zero => omega
      | succ n => rw [hq] at hi; cases hi

theorem mem_zip {ops : Array Oper} {o : Oper} {i : Nat} : (o, i) ∈ ops.toList.zipIdx ↔ ops[i]? = some o := by
  rw [List.mk_mem_zipIdx_iff_getElem?]
  simp

theorem writesIn_spec {t : Tmp} {m : Nat} {l : List (Oper × Nat)} (h : writesIn t m l = true) {o : Oper} {k : Nat} (hm : (o, k) ∈ l) (hd : o.dst = some t) : hasBit m k = true := by
  induction l with
  | nil => cases hm
  | cons x l ih =>
    obtain ⟨o', k'⟩ := x
    simp only [writesIn, Bool.and_eq_true] at h
    rcases List.mem_cons.1 hm with e | hm
    · cases e
      have := h.1
      rw [hd] at this
      simpa using this
    · exact ih h.2 hm
theorem looksOk_spec {l : List (Oper × Nat)} {m : Nat} {ts : List Tmp} (h : looksOk l m ts = true) : ∀ t ∈ ts, writesIn t m l = true := by
  induction ts with
  | nil => intro t ht; cases ht
  | cons t ts ih =>
    intro u hu
    simp only [looksOk, Bool.and_eq_true] at h
    rcases List.mem_cons.1 hu with rfl | hu
    · exact h.1
    · exact ih h.2 u hu
theorem regOk_spec {ops : Array Oper} {bm : List Nat} {all l : List (Oper × Nat)} (h : regOk ops bm all l = true) {o : Oper} {i : Nat} (hm : (o, i) ∈ l) :
    (∀ t ∈ o.looksAt ops, writesIn t (nthD bm i) all = true) ∧ (∀ d, o.dst = some d → writesIn d (2 ^ i) all = true) := by
  induction l with
  | nil => cases hm
  | cons x l ih =>
    obtain ⟨o', i'⟩ := x
    simp only [regOk, Bool.and_eq_true] at h
    rcases List.mem_cons.1 hm with e | hm
    · cases e
      refine ⟨looksOk_spec h.1.1, fun d hd => ?_⟩
      have := h.1.2
      rw [hd] at this
      exact this
    · exact ih h.2 hm
theorem closedOk_spec {sm head : Nat} {l : List (Oper × Nat)} (h : closedOk sm head l = true) {o : Oper} {k : Nat} (hm : (o, k) ∈ l) : hasBit sm k = true ∨ k = head ∨ subMask (predMask o) sm = false := by
  induction l with
  | nil => cases hm
  | cons x l ih =>
    obtain ⟨o', k'⟩ := x
    simp only [closedOk, Bool.and_eq_true, Bool.or_eq_true] at h
    rcases List.mem_cons.1 hm with e | hm
    · cases e
      rcases h.1 with (h | h) | h
      · exact .inl h
      · exact .inr (.inl (Nat.eq_of_beq_eq_true h))
      · exact .inr (.inr (by simpa using h))
    · exact ih h.2 hm
theorem effMask_spec {C : Cy} {ops : Array Oper} {bm : List Nat} {k : Nat} {l : List Nat} (h : hasBit (effMask C ops bm l) k = true) : ∃ i ∈ l, ∃ o, ops[i]? = some o ∧ isEff C o = true ∧ (i = k ∨ hasBit (nthD bm i) k = true) := by
  induction l with
  | nil => simp [effMask, hasBit_zero] at h
  | cons i l ih =>
    simp only [effMask] at h
    have rec' : hasBit (effMask C ops bm l) k = true → ∃ i' ∈ i :: l, ∃ o, ops[i']? = some o ∧ isEff C o = true ∧ (i' = k ∨ hasBit (nthD bm i') k = true) := fun h =>
      let ⟨i', h1, h2⟩ := ih h; ⟨i', .tail _ h1, h2⟩
    split at h
    · rename_i o ho
      cases he : isEff C o with
      | false => rw [he] at h; exact rec' h
      | true =>
        rw [he] at h
        simp only [cond_true, hasBit_lor, hasBit_pow, Bool.or_eq_true, decide_eq_true_eq] at h
        rcases h with (h | h) | h
        · exact ⟨i, .head _, o, ho, he, .inl h⟩
        · exact ⟨i, .head _, o, ho, he, .inr h⟩
        · exact rec' h
    · exact rec' h
theorem still_spec {C : Cy} {P : Program} {ops : Array Oper} {base : Nat} {T : PT Value} {H : AHeap} {mask : Nat} {l : List Nat} (h : still C P ops base T H mask l = true) (i : Nat) (hi : i ∈ l) (hm : hasBit mask i = false) :
    ∃ o d, ops[i]? = some o ∧ o.dst = some d ∧ (wantedA T ops o = true → ∃ v H', aop C P T o H (base + i) = some (.val v H') ∧ T.get d = some v ∧ H'.get (base + i) = H.get (base + i)) ∧
      (wantedA T ops o = false → (T.get d).getD unk = unk) := by
  induction l with
  | nil => cases hi
  | cons j l ih =>
    simp only [still] at h
    split at h
    · rename_i o ho
      rw [Bool.and_eq_true] at h
      rcases List.mem_cons.1 hi with rfl | hi
      · have h := h.1
        rw [hm, cond_false] at h
        split at h
        · rename_i d hd
          refine ⟨o, d, ho, hd, fun hw => ?_, fun hw => ?_⟩
          · rw [hw, cond_true] at h
            split at h
            · rename_i v H' ha
              rw [Bool.and_eq_true] at h
              obtain ⟨h1, h2⟩ := h
              split at h1
              · rename_i u hu
                rw [veq_eq h1] at ha
                exact ⟨u, H', ha, hu, sameObj_eq h2⟩
              · cases h1
            · cases h
          · rw [hw, cond_false] at h
            split at h
            · rename_i u hu
              rw [hu, isUnk_eq h]; rfl
            · rename_i hu
              rw [hu]; rfl
        · cases h
      · exact ih h.2 hi
    · cases h
end
end Go.AM

/- The abstract machine, part 24: a call; one operation of a region, walked. -/
namespace Go.AM
open Go Go.RowKit
noncomputable section

def fen (ro : Option Nat) : Fence := { Fence.wide with round := ro }
theorem fen_fn (ro : Option Nat) (f : FuncId) : (fen ro).fn f := trivial
theorem fen_none : fen none = Fence.wide := rfl
theorem fen_some (l : Nat) : fen (some l) = Fence.wide.inRound l := rfl
theorem fen_deep {ro : Option Nat} {n : Nat} (h : (fen ro).depth.isSome = true) : 1 ≤ n := by cases h

/-- What a call comes to. -/
def VPost (γ : Gam) (B : Nat) (H : AHeap) (w : World) (v : Value) (H' : AHeap) : Ending → World → Prop
  | .returned v', w' => ∃ γ', VRel γ' v v' ∧ Rel γ' B H' w' ∧ Ext γ γ' H H' ∧ Below B w w'
  | _, _ => False

def CallOk (C : Cy) (P : Program) (f : Nat) : Prop := ∀ (γ : Gam) (B : Nat) (H : AHeap) (w : World) (g : FuncId) (args : List Value) (args' : Array Value) (v : Value) (H' : AHeap),
  Rel γ B H w → C.GlobOk γ → VsRel γ args args'.toList → run C P f (.call g args) H = some (.val v H') → CallsIn (fen none) 0 P g args' w (VPost γ B H w v H')
def RoundOk (C : Cy) (P : Program) (f : Nat) : Prop := ∀ (γ : Gam) (B : Nat) (H : AHeap) (w : World) (x : Nat) (g : G) (args : List Value) (args' : Array Value) (v : Value) (H' : AHeap),
  Rel γ B H w → C.GlobOk γ → γ x = some g → VsRel γ args args'.toList → run C P f (.round x args) H = some (.val v H') →
  ∃ l fn tmps assign body, (Instr.yield g.b args').run P w = .ok (.round l fn tmps assign body) w ∧ RoundIn (fen none) 0 P l fn tmps assign body w (VPost γ B H w v H')

/-- What an operation comes to, the call behind it run. -/
inductive OutOk (C : Cy) (P : Program) (f : Nat) (H : AHeap) : Out → Value → AHeap → Prop
  | val {v : Value} {H' : AHeap} : OutOk C P f H (.val v H') v H'
  | enter {g : FuncId} {args : List Value} {v : Value} {H' : AHeap} (h : run C P f (.call g args) H = some (.val v H')) : OutOk C P f H (.enter g args) v H'
  | round {x : Nat} {args : List Value} {v : Value} {H' : AHeap} (h : run C P f (.round x args) H = some (.val v H')) : OutOk C P f H (.round x args) v H'

section
variable {C : Cy} {P : Program}

theorem aop_defr {T : PT Value} {o : Oper} {H : AHeap} {nid : Nat} {out : Out} {c : Call} (ho : o.op = .defer c) (h : aop C P T o H nid = some out) : ∃ g args, out = .defr g args := by
  unfold aop at h
  simp only [ho] at h
  split at h
  · split at h
    · cases h; exact ⟨_, _, rfl⟩
    · cases h
  · cases h

theorem op_step {f : Nat} (hC : C.Fits P) (hc : CallOk C P f) (hr : RoundOk C P f) {γ : Gam} {B : Nat} {H : AHeap} {w : World} {nid : Nat} {T : PT Value} {o : Oper} {a : Act} {out : Out} {v : Value} {H' : AHeap} {ro : Option Nat}
    {K : Act → World → Prop} {Q : Exit → Act → World → Prop}
    (r : Rel γ B H w) (hG : C.GlobOk γ) (hn : γ nid = none) (hρ : ∀ x ∈ o.op.operands.toList, ER C γ T a.eval x) (h : aop C P T o H nid = some out) (hout : OutOk C P f H out v H')
    (hk : ∀ γ' v' w', VRel γ' v v' → Rel γ' B H' w' → ExtX nid γ γ' H H' → Below B w w' → K (a.put o.dst v') w') : o.wpIn (fen ro) 0 P a w K Q := by
  have hop := aop_sound hC r hn hρ h
  have hsem : o.semAt (fen ro).round a.eval = execOp a.eval o := Oper.semAt_eq _ _ _ fun c ho => by
    obtain ⟨g, as, e⟩ := aop_defr ho h
    subst e
    cases hout
  refine ⟨fun _ _ => trivial, ?_⟩
  rw [hsem]
  cases hout with
  | val =>
    obtain ⟨γ', v', w', h1, h2, h3, h4, h5⟩ := hop
    rcases h1 with h1 | ⟨h1, h1'⟩
    · rw [h1]
      exact hk γ' v' w' h2 h3 h4 h5
    · rw [h1]
      subst h1'
      exact hk γ' undef w' h2 h3 h4 h5
  | enter hrun =>
    obtain ⟨args', h1, h2⟩ := hop
    rw [h1]
    refine ⟨fen_deep, ?_⟩
    have := hc γ B H w _ _ args' v H' r hG h2 hrun
    refine CallsIn.mono (F := fen ro) this fun e w'' he => ?_
    cases e with
    | returned v' =>
      obtain ⟨γ', q1, q2, q3, q4⟩ := he
      exact hk γ' v' w'' q1 q2 q3.x q4
    | panicked => exact he.elim
    | outgrown => exact he.elim
  | round hrun =>
    obtain ⟨g, args', h1, h2, h3⟩ := hop
    obtain ⟨l, fn, tmps, assign, body, q1, q2⟩ := hr γ B H w _ g _ args' v H' r hG h1 h2 hrun
    rw [h3, q1]
    refine ⟨fen_deep, ?_⟩
    refine RoundIn.mono (F := fen ro) q2 fun e w'' he => ?_
    cases e with
    | returned v' =>
      obtain ⟨γ', q1, q2, q3, q4⟩ := he
      exact hk γ' v' w'' q1 q2 q3.x q4
    | panicked => exact he.elim
    | outgrown => exact he.elim

/-! ### Counting -/
theorem nodup_le : ∀ {l r : List Nat}, l.Nodup → (∀ x ∈ l, x ∈ r) → l.length ≤ r.length
  | [], _, _, _ => Nat.zero_le _
  | x :: l, r, hn, h => by
    have hx := h x (.head _)
    have hn' := List.nodup_cons.1 hn
    have := nodup_le (r := r.erase x) hn'.2 fun y hy => (List.mem_erase_of_ne (fun e : y = x => hn'.1 (by rw [← e]; exact hy))).2 (h y (.tail _ hy))
    rw [List.length_erase_of_mem hx] at this
    have : 0 < r.length := List.length_pos_of_mem hx
    simp only [List.length_cons]
    omega
theorem nodup_all {l : List Nat} {n : Nat} (hn : l.Nodup) (h : ∀ x ∈ l, x < n) (hl : n ≤ l.length) : ∀ i, i < n → i ∈ l := fun i hi => by
  refine Classical.byContradiction fun hni => ?_
  have := nodup_le (l := i :: l) (r := List.range n) (List.nodup_cons.2 ⟨hni, hn⟩) fun x hx => by
    rw [List.mem_range]
    rcases List.mem_cons.1 hx with rfl | hx
    · exact hi
    · exact h x hx
  simp at this
  omega

/-! ### How far the abstract machine is -/
def SeenOk (ops : Array Oper) : List Nat → Prop
  | [] => True
  | i :: s => i ∉ s ∧ (∃ o, ops[i]? = some o ∧ ∀ e ∈ o.after, Region.binds .any e = true → e.on ∈ s) ∧ SeenOk ops s
theorem SeenOk.nodup {ops : Array Oper} : ∀ {s : List Nat}, SeenOk ops s → s.Nodup
  | [], _ => List.nodup_nil
  | _ :: _, h => List.nodup_cons.2 ⟨h.1, h.2.2.nodup⟩
theorem SeenOk.lt {ops : Array Oper} : ∀ {s : List Nat}, SeenOk ops s → ∀ i ∈ s, i < ops.size
  | j :: s, h, i, hi => by
    rcases List.mem_cons.1 hi with rfl | hi
    · obtain ⟨_, ⟨o, ho, _⟩, _⟩ := h
      exact (Array.getElem?_eq_some_iff.1 ho).1
    · exact SeenOk.lt h.2.2 i hi
/-- The first to come up of those that are not in the set may come up. -/
theorem SeenOk.first {ops : Array Oper} {D : Nat → Prop} : ∀ {s : List Nat}, SeenOk ops s → (∃ i ∈ s, ¬ D i) → ∃ i ∈ s, ¬ D i ∧ ∃ o, ops[i]? = some o ∧ ∀ e ∈ o.after, Region.binds .any e = true → D e.on
  | [], _, ⟨_, h, _⟩ => by cases h
  | j :: s, h, hex => by
    by_cases hs : ∃ i ∈ s, ¬ D i
    · obtain ⟨i, h1, h2⟩ := SeenOk.first h.2.2 hs
      exact ⟨i, .tail _ h1, h2⟩
    · obtain ⟨i, hi, hD⟩ := hex
      rcases List.mem_cons.1 hi with rfl | hi
      · obtain ⟨_, ⟨o, ho, hpre⟩, _⟩ := h
        exact ⟨i, .head _, hD, o, ho, fun e he hb => Classical.byContradiction fun hn => hs ⟨e.on, hpre e he hb, hn⟩⟩
      · exact absurd ⟨i, hi, hD⟩ hs
theorem freshOk_spec {ops : Array Oper} {o : Oper} {seen : List Nat} {i : Nat} (h : freshOk o (maskOf seen) i = true) : i ∉ seen ∧ ∀ e ∈ o.after, Region.binds .any e = true → e.on ∈ seen := by
  have _ := ops
  simp only [freshOk, Bool.and_eq_true, Bool.not_eq_true'] at h
  refine ⟨fun hm => ?_, fun e he hb => ?_⟩
  · rw [maskOf_iff.2 hm] at h; cases h.1
  · exact maskOf_iff.1 (subMask_spec h.2 (predMask_iff.2 ⟨e, he, hb, rfl⟩))

structure Curs (C : Cy) (P : Program) (ops : Array Oper) (bm : List Nat) (base : Nat) (fr0 : Fr) (rF : Res) (f : Nat) (l seen : List Nat) (fr : Fr) (H : AHeap) : Prop where
  hrun : run C P f (.dops ops bm base l seen fr) H = some rF
  ord : SeenOk ops seen
  hn : fr.n = fr0.n
  hds : fr.ds = fr0.ds
  hrd : fr.rd = fr0.rd
  hT : ∀ t, (∀ i ∈ seen, ∀ o, ops[i]? = some o → o.dst ≠ some t) → fr.T.get t = fr0.T.get t
  hdn : ∀ i ∈ seen, ∀ o d, ops[i]? = some o → o.dst = some d → d < fr0.n
  hnext : base + ops.size ≤ H.next

section
variable {ops : Array Oper} {bm : List Nat} {base : Nat} {fr0 : Fr} {rF : Res}

theorem Fr.put_get {fr fr' : Fr} {dst : Option Tmp} {v : Value} (h : fr.put dst v = some fr') (t : Tmp) : fr'.T.get t = if dst = some t then some v else fr.T.get t := by
  obtain ⟨_, _, _, ⟨rfl, hT⟩ | ⟨d, rfl, _, hT⟩⟩ := Fr.put_spec h
  · simp [hT]
  · rw [hT, PT.get_set]
    by_cases e : t = d
    · subst e; simp
    · have : ¬ (some d = some t) := fun h => e (by cases h; rfl)
      simp [e, Ne.symm e]

theorem Curs.step {f f1 : Nat} {i : Nat} {l l' seen : List Nat} {fr fr1 : Fr} {H H1 : AHeap} {o : Oper} {v : Value} (h : Curs C P ops bm base fr0 rF f l seen fr H) (ho : ops[i]? = some o)
    (hf : freshOk o (maskOf seen) i = true) (hp : fr.put o.dst v = some fr1) (hr : run C P f1 (.dops ops bm base l' (i :: seen) fr1) H1 = some rF) (hx : H.next ≤ H1.next) :
    Curs C P ops bm base fr0 rF f1 l' (i :: seen) fr1 H1 := by
  obtain ⟨p1, p2, p3, p4⟩ := Fr.put_spec hp
  obtain ⟨q1, q2⟩ := freshOk_spec (ops := ops) hf
  refine ⟨hr, ⟨q1, ⟨o, ho, q2⟩, h.ord⟩, p1.trans h.hn, p2.trans h.hds, p3.trans h.hrd, fun t ht => ?_, fun j hj oj d hoj hd => ?_, Nat.le_trans h.hnext hx⟩
  · rw [Fr.put_get hp, if_neg (ht i (.head _) o ho)]
    exact h.hT t fun j hj => ht j (.tail _ hj)
  · rcases List.mem_cons.1 hj with rfl | hj
    · rw [ho] at hoj
      cases hoj
      rcases p4 with ⟨e, _⟩ | ⟨d', e, hlt, _⟩
      · rw [e] at hd; cases hd
      · rw [e] at hd; cases hd; rw [← h.hn]; exact hlt
    · exact h.hdn j hj oj d hoj hd

def AtEnd (C : Cy) (ops : Array Oper) (l : List Nat) : Prop := l = [] ∨ ∃ i l' o, l = i :: l' ∧ ops[i]? = some o ∧ isEff C o = true

theorem Frm.get {H H' : AHeap} {nid x : Nat} (h : Frm H nid H') (hx : x ≠ nid) : H'.get x = H.get x := by
  rcases h with rfl | ⟨o, rfl⟩
  · rfl
  · rw [AHeap.get_put, if_neg hx]
theorem Frm.next {H H' : AHeap} {nid : Nat} (h : Frm H nid H') : H.next ≤ H'.next := by
  rcases h with rfl | ⟨o, rfl⟩
  · exact Nat.le_refl _
  · rw [AHeap.put_next]; omega

/-- The machine goes on to the next operation with an effect. -/
def Adv (C : Cy) (P : Program) (ops : Array Oper) (bm : List Nat) (base : Nat) (fr0 : Fr) (rF : Res) (f : Nat) (seen : List Nat) (fr : Fr) (H : AHeap) : Prop :=
    ∃ f' l' seen' fr' H', f' ≤ f ∧ Curs C P ops bm base fr0 rF f' l' seen' fr' H' ∧ AtEnd C ops l' ∧ (∀ i ∈ seen, i ∈ seen') ∧ (∀ i ∈ seen', i ∉ seen → ∀ o, ops[i]? = some o → isEff C o = false) ∧
      (∀ x, (∀ i ∈ seen', i ∉ seen → x ≠ base + i) → H'.get x = H.get x) ∧ H.next ≤ H'.next ∧ (∀ t, (∀ i ∈ seen', i ∉ seen → ∀ o, ops[i]? = some o → o.dst ≠ some t) → fr'.T.get t = fr.T.get t)

theorem Curs.advance : ∀ (f : Nat) (l seen : List Nat) (fr : Fr) (H : AHeap), Curs C P ops bm base fr0 rF f l seen fr H → Adv C P ops bm base fr0 rF f seen fr H := by
  intro f
  induction f with
  | zero => intro l seen fr H h; have := h.hrun; simp [run] at this
  | succ f ih =>
    intro l seen fr H h
    cases l with
    | nil => exact ⟨f + 1, [], seen, fr, H, Nat.le_refl _, h, .inl rfl, fun _ h => h, fun i h1 h2 => absurd h1 h2, fun _ _ => rfl, Nat.le_refl _, fun _ _ => rfl⟩
    | cons i l =>
      have hr := h.hrun
      rw [run] at hr
      simp only at hr
      split at hr
      · rename_i o ho
        cases hf : freshOk o (maskOf seen) i with
        | false => rw [hf] at hr; cases hr
        | true =>
          rw [hf, cond_true] at hr
          cases he : isEff C o with
          | true => exact ⟨f + 1, i :: l, seen, fr, H, Nat.le_refl _, h, .inr ⟨i, l, o, rfl, ho, he⟩, fun _ h => h, fun i h1 h2 => absurd h1 h2, fun _ _ => rfl, Nat.le_refl _, fun _ _ => rfl⟩
          | false =>
            rw [he, cond_false] at hr
            have go : ∀ (v : Value) (H1 : AHeap) (fr1 : Fr), fr.put o.dst v = some fr1 → Frm H (base + i) H1 → run C P f (.dops ops bm base l (i :: seen) fr1) H1 = some rF → Adv C P ops bm base fr0 rF (f + 1) seen fr H := fun v H1 fr1 hp hfm hr1 => by
              obtain ⟨f', l', seen', fr', H', g1, g2, g3, g4, g5, g6, g7, g8⟩ := ih l (i :: seen) fr1 H1 (h.step ho hf hp hr1 hfm.next)
              refine ⟨f', l', seen', fr', H', by omega, g2, g3, fun j hj => g4 j (.tail _ hj), fun j h1 h2 oj hoj => ?_, fun x hx => ?_, Nat.le_trans hfm.next g7, fun t ht => ?_⟩
              · by_cases e : j = i
                · subst e; rw [ho] at hoj; cases hoj; exact he
                · exact g5 j h1 (fun hm => (List.mem_cons.1 hm).elim e h2) oj hoj
              · rw [g6 x fun j h1 h2 => hx j h1 fun hm => h2 (.tail _ hm)]
                exact hfm.get (hx i (g4 i (.head _)) (freshOk_spec (ops := ops) hf).1)
              · rw [g8 t fun j h1 h2 => ht j h1 fun hm => h2 (.tail _ hm), Fr.put_get hp, if_neg (ht i (g4 i (.head _)) (freshOk_spec (ops := ops) hf).1 o ho)]
            cases hw : wantedA fr.T ops o with
            | true =>
              rw [hw, cond_true] at hr
              split at hr
              · rename_i v H1 ha
                split at hr
                · rename_i fr1 hp
                  exact go v H1 fr1 hp (calm_frame he ha) hr
                · cases hr
              · cases hr
            | false =>
              rw [hw, cond_false] at hr
              split at hr
              · rename_i fr1 hp
                exact go unk H fr1 hp (.inl rfl) hr
              · cases hr
      · cases hr
end
end
end
end Go.AM

/- The abstract machine, part 25: a region whose order is open, in whatever order. -/
namespace Go.AM
open Go Go.RowKit
noncomputable section

theorem Rel.junk {γ : Gam} {B : Nat} {H H' : AHeap} {w : World} (r : Rel γ B H w) (h : ∀ x g, γ x = some g → H'.get x = H.get x) (hn : ∀ x g, γ x = some g → x < H'.next) : Rel γ B H' w :=
  ⟨hn, r.lt, fun x g o hx ho => r.obj x g o hx (by rw [← h x g hx]; exact ho), fun x g o hx ho => r.own x g o hx (by rw [← h x g hx]; exact ho),
    fun x y gx gy ox oy hx hy h1 h2 => r.inj x y gx gy ox oy hx hy (by rw [← h x gx hx]; exact h1) (by rw [← h y gy hy]; exact h2), r.base⟩
theorem Rel.fresh {γ : Gam} {B : Nat} {H : AHeap} {w : World} (r : Rel γ B H w) {x : Nat} (hx : H.next ≤ x) : γ x = none := by
  cases h : γ x with
  | none => rfl
  | some g => have := r.dom x g h; omega

section
variable {C : Cy} {P : Program} {ops : Array Oper} {bm : List Nat} {base : Nat} {fr0 : Fr} {rF : Res} {γ0 : Gam} {B : Nat} {H0 : AHeap} {w0 : World} {df : List Deferred}

structure Inv (C : Cy) (P : Program) (ops : Array Oper) (bm : List Nat) (base : Nat) (fr0 : Fr) (rF : Res) (γ0 : Gam) (B : Nat) (H0 : AHeap) (w0 : World) (df : List Deferred)
    (D : Nat → Prop) (f : Nat) (l seen : List Nat) (fr : Fr) (H : AHeap) (γ : Gam) (a : Act) (w : World) : Prop where
  cur : Curs C P ops bm base fr0 rF f l seen fr H
  fin : AtEnd C ops l
  sub : ∀ i, D i → i ∈ seen
  calm : ∀ i ∈ seen, ¬ D i → ∀ o, ops[i]? = some o → isEff C o = false
  down : Down ops.toList D
  rel : Rel γ B H w
  glob : C.GlobOk γ
  sz : a.tmps.size = fr0.n
  tIn : ∀ i, D i → ∀ o d, ops[i]? = some o → o.dst = some d → VRel γ ((fr.T.get d).getD unk) (a.tmps.getD d undef)
  tOut : ∀ t, (∀ i, D i → ∀ o, ops[i]? = some o → o.dst ≠ some t) → VRel γ ((fr0.T.get t).getD unk) (a.tmps.getD t undef)
  free : ∀ i, i < ops.size → ¬ D i → γ (base + i) = none
  le : γ0.le γ
  out : ∀ x, x < base → γ0 x = none → γ x = none ∧ H.get x = H0.get x
  below : Below B w0 w
  dfr : a.defers = df

/-- Is it in order: what is looked at is written before; nothing is written twice. -/
structure Reg (ops : Array Oper) (bm : List Nat) : Prop where
  beq : bm = befs ops.toList []
  looks : ∀ (i : Nat) (o : Oper), ops[i]? = some o → ∀ t ∈ o.looksAt ops, ∀ (k : Nat) (ok : Oper), ops[k]? = some ok → ok.dst = some t → hasBit (nthD bm i) k = true
  uniq : ∀ (i k : Nat) (o ok : Oper) (d : Tmp), ops[i]? = some o → ops[k]? = some ok → o.dst = some d → ok.dst = some d → k = i
theorem Reg.of_ok (h : regOk ops (befs ops.toList []) ops.toList.zipIdx ops.toList.zipIdx = true) : Reg ops (befs ops.toList []) := by
  refine ⟨rfl, fun i o ho t ht k ok hk hd => ?_, fun i k o ok d ho hk hd hd' => ?_⟩
  · exact writesIn_spec ((regOk_spec h (mem_zip.2 ho)).1 t ht) (mem_zip.2 hk) hd
  · have := writesIn_spec ((regOk_spec h (mem_zip.2 ho)).2 d hd) (mem_zip.2 hk) hd'
    rw [hasBit_pow, decide_eq_true_eq] at this
    exact this.symm

theorem Reg.before (hR : Reg ops bm) {D : Nat → Prop} (hD : Down ops.toList D) {i : Nat} {o : Oper} (ho : ops[i]? = some o) (hp : ∀ e ∈ o.after, Region.binds .any e = true → D e.on) {k : Nat} (hk : hasBit (nthD bm i) k = true) : D k := by
  rw [hR.beq] at hk
  exact befs_spec D ops.toList [] [] (by simpa using hD) rfl (fun i o h => by simp at h) i o (by simpa using ho) hp k hk

def Ready (D : Nat → Prop) (o : Oper) : Prop := ∀ e ∈ o.after, Region.binds .any e = true → D e.on

theorem Inv.tmp {D : Nat → Prop} {f : Nat} {l seen : List Nat} {fr : Fr} {H : AHeap} {γ : Gam} {a : Act} {w : World} (hR : Reg ops bm) (I : Inv C P ops bm base fr0 rF γ0 B H0 w0 df D f l seen fr H γ a w)
    {i : Nat} {o : Oper} (ho : ops[i]? = some o) (hp : Ready D o) {t : Tmp} (ht : t ∈ o.looksAt ops) : VRel γ ((fr.T.get t).getD unk) (a.tmps.getD t undef) := by
  by_cases hw : ∃ (k : Nat) (ok : Oper), ops[k]? = some ok ∧ ok.dst = some t
  · obtain ⟨k, ok, hk, hd⟩ := hw
    exact I.tIn k (hR.before I.down ho hp (hR.looks i o ho t ht k ok hk hd)) ok t hk hd
  · rw [I.cur.hT t fun i _ o ho hd => hw ⟨i, o, ho, hd⟩]
    exact I.tOut t fun i _ o ho hd => hw ⟨i, o, ho, hd⟩
theorem Inv.er {D : Nat → Prop} {f : Nat} {l seen : List Nat} {fr : Fr} {H : AHeap} {γ : Gam} {a : Act} {w : World} (hR : Reg ops bm) (I : Inv C P ops bm base fr0 rF γ0 B H0 w0 df D f l seen fr H γ a w)
    {i : Nat} {o : Oper} (ho : ops[i]? = some o) (hp : Ready D o) : ∀ x ∈ o.op.operands.toList, ER C γ fr.T a.eval x := fun x hx v hv => by
  cases x with
  | tmp t =>
    have := I.tmp hR ho hp (t := t) (List.mem_append_left _ (List.mem_filterMap.2 ⟨.tmp t, hx, rfl⟩))
    simp only [aeval] at hv
    split at hv
    · rename_i u hu; cases hv; rw [hu] at this; simpa [Act.eval] using this
    · rename_i hu; cases hv; rw [hu] at this; simpa [Act.eval] using this
  | const u =>
    simp only [aeval] at hv
    cases hg : gnd u with
    | false => rw [hg] at hv; cases hv
    | true => rw [hg] at hv; cases hv; exact gnd_rel _ hg
  | global g =>
    simp only [aeval] at hv
    cases hg : C.glob g with
    | false => rw [hg] at hv; cases hv
    | true =>
      rw [hg] at hv
      cases hv
      obtain ⟨n, hn⟩ := I.glob g hg
      exact .ptr (g := ⟨g, 0, n⟩) hn
  | func f => simp only [aeval] at hv; cases hv; exact .func (.func f) .nil .nil
theorem Inv.want {D : Nat → Prop} {f : Nat} {l seen : List Nat} {fr : Fr} {H : AHeap} {γ : Gam} {a : Act} {w : World} (hR : Reg ops bm) (I : Inv C P ops bm base fr0 rF γ0 B H0 w0 df D f l seen fr H γ a w)
    {i : Nat} {o : Oper} (ho : ops[i]? = some o) (hp : Ready D o) : Region.wanted o (yielded ops a.tmps) = wantedA fr.T ops o :=
  wanted_eq (n := 0) fun j want oj d hg hj hd => I.tmp hR ho hp (List.mem_append_right _ (by simp [hg, hj, hd]))

/-- What the machine has checked where it is. -/
theorem Inv.stage {D : Nat → Prop} {f : Nat} {l seen : List Nat} {fr : Fr} {H : AHeap} {γ : Gam} {a : Act} {w : World} (I : Inv C P ops bm base fr0 rF γ0 B H0 w0 df D f l seen fr H γ a w) :
    (∃ head, (∀ i l', l = i :: l' → head = i) ∧ (l = [] → head = ops.size ∧ seen.length = ops.size ∧ rF = .code .normal fr H) ∧ closedOk (maskOf seen) head ops.toList.zipIdx = true) ∧ still C P ops base fr.T H (effMask C ops bm seen) seen = true := by
  have hr := I.cur.hrun
  cases f with
  | zero => simp [run] at hr
  | succ f =>
    rcases I.fin with rfl | ⟨i, l', o, rfl, ho, he⟩
    · rw [run] at hr
      obtain ⟨h1, h2⟩ := bif_some hr
      simp only [stageOk, Bool.and_eq_true] at h1
      exact ⟨⟨ops.size, fun _ _ h => (by cases h), fun _ => ⟨rfl, Nat.eq_of_beq_eq_true h1.1, by cases h2; rfl⟩, h1.2.1⟩, h1.2.2⟩
    · rw [run] at hr
      simp only [ho] at hr
      obtain ⟨h1, hr⟩ := bif_some hr
      rw [he, cond_true] at hr
      obtain ⟨h2, hr⟩ := bif_some hr
      simp only [stageOk, Bool.and_eq_true] at h2
      exact ⟨⟨i, fun _ _ h => (by cases h; rfl), fun h => (by cases h), h2.1⟩, h2.2⟩

/-- The temporary of an operation is written. -/
theorem Inv.tmps {D : Nat → Prop} {fr fr' : Fr} {γ γ' : Gam} {a : Act} {i : Nat} {o : Oper} {v' : Value} (hR : Reg ops bm) (hle : γ.le γ') (ho : ops[i]? = some o) (hi : ¬ D i)
    (hdn : ∀ d, o.dst = some d → d < a.tmps.size)
    (hv : ∀ d, o.dst = some d → VRel γ' ((fr'.T.get d).getD unk) v')
    (hsame : ∀ k, D k → ∀ ok d, ops[k]? = some ok → ok.dst = some d → fr'.T.get d = fr.T.get d)
    (tIn : ∀ i, D i → ∀ o d, ops[i]? = some o → o.dst = some d → VRel γ ((fr.T.get d).getD unk) (a.tmps.getD d undef))
    (tOut : ∀ t, (∀ i, D i → ∀ o, ops[i]? = some o → o.dst ≠ some t) → VRel γ ((fr0.T.get t).getD unk) (a.tmps.getD t undef)) :
    (a.put o.dst v').tmps.size = a.tmps.size ∧
    (∀ k, D k ∨ k = i → ∀ ok d, ops[k]? = some ok → ok.dst = some d → VRel γ' ((fr'.T.get d).getD unk) ((a.put o.dst v').tmps.getD d undef)) ∧
    (∀ t, (∀ k, D k ∨ k = i → ∀ ok, ops[k]? = some ok → ok.dst ≠ some t) → VRel γ' ((fr0.T.get t).getD unk) ((a.put o.dst v').tmps.getD t undef)) := by
  have hget : ∀ t, o.dst ≠ some t → (a.put o.dst v').tmps.getD t undef = a.tmps.getD t undef := fun t ht => by
    cases hd : o.dst with
    | none => rfl
    | some d =>
      have : d ≠ t := fun e => ht (by rw [hd, e])
      simp only [Act.put]
      rw [Array.getD_eq_getD_getElem?, Array.getElem?_setIfInBounds_ne this, ← Array.getD_eq_getD_getElem?]
  refine ⟨by cases o.dst <;> simp [Act.put], fun k hk ok d hok hd => ?_, fun t ht => ?_⟩
  · by_cases e : k = i
    · subst e
      rw [ho] at hok
      cases hok
      have h1 := hdn d hd
      have h2 := hv d hd
      rw [hd]
      simp only [Act.put]
      rw [Array.getD_eq_getD_getElem?, Array.getElem?_setIfInBounds_self_of_lt h1]
      exact h2
    · have hk := hk.resolve_right e
      have hne : o.dst ≠ some d := fun h => e (hR.uniq i k o ok d ho hok h hd)
      rw [hget d hne, hsame k hk ok d hok hd]
      exact (tIn k hk ok d hok hd).mono hle
  · have hne : o.dst ≠ some t := ht i (.inr rfl) o ho
    rw [hget t hne]
    exact (tOut t fun k hk => ht k (.inl hk)).mono hle

theorem Inv.down' {D : Nat → Prop} (hD : Down ops.toList D) {i : Nat} {o : Oper} (ho : ops[i]? = some o) (hp : Ready D o) : Down ops.toList fun k => D k ∨ k = i := fun k ok hok hk e he hb => by
  by_cases h : k = i
  · subst h
    have : ok = o := by simp at hok; rw [ho] at hok; cases hok; rfl
    subst this
    exact .inl (hp e he hb)
  · exact .inl (hD k ok hok (hk.resolve_right h) e he hb)

theorem calm_step {f0 : Nat} (hC : C.Fits P) (hc : CallOk C P f0) (hr : RoundOk C P f0) {D : Nat → Prop} {f : Nat} {l seen : List Nat} {fr : Fr} {H : AHeap} {γ : Gam} {a : Act} {w : World} (hR : Reg ops bm)
    (I : Inv C P ops bm base fr0 rF γ0 B H0 w0 df D f l seen fr H γ a w) {i : Nat} {o : Oper} (ho : ops[i]? = some o) (hp : Ready D o) (hi : i ∈ seen) (hD : ¬ D i) {ro : Option Nat} {K : Act → World → Prop} {Q : Exit → Act → World → Prop}
    (hk : ∀ γ' a' w', Inv C P ops bm base fr0 rF γ0 B H0 w0 df (fun k => D k ∨ k = i) f l seen fr H γ' a' w' → K a' w') : wpOpIn (fen ro) 0 P ops Q i K a w := by
  have hcalm := I.calm i hi hD o ho
  have hmask : hasBit (effMask C ops bm seen) i = false := by
    cases hb : hasBit (effMask C ops bm seen) i with
    | false => rfl
    | true =>
      obtain ⟨j, hj, oj, hoj, hje, hji⟩ := effMask_spec hb
      have hDj : D j := Classical.byContradiction fun hn => by
        have := I.calm j hj hn oj hoj
        rw [this] at hje
        cases hje
      rcases hji with rfl | hji
      · exact absurd hDj hD
      · exact absurd (hR.before I.down hoj (fun e he hb => I.down j oj (by simpa using hoj) hDj e he hb) hji) hD
  obtain ⟨o', d, ho', hd, hyes, hno⟩ := still_spec I.stage.2 i hi hmask
  rw [ho] at ho'
  cases ho'
  have hil : i < ops.size := (Array.getElem?_eq_some_iff.1 ho).1
  have hdn : ∀ d, o.dst = some d → d < a.tmps.size := fun d hd => by rw [I.sz]; exact I.cur.hdn i hi o d ho hd
  have hput : ∀ γ' v' w', VRel γ' ((fr.T.get d).getD unk) v' → Rel γ' B H w' → γ.le γ' → (∀ x, x < H.next → x ≠ base + i → γ x = none → γ' x = none) → Below B w w' → K (a.put o.dst v') w' := fun γ' v' w' h1 h2 h3 h4 h5 => by
    obtain ⟨t1, t2, t3⟩ := Inv.tmps (fr0 := fr0) (fr := fr) (fr' := fr) hR h3 ho hD hdn (fun d' hd' => by rw [hd] at hd'; cases hd'; exact h1) (fun _ _ _ _ _ _ => rfl) I.tIn I.tOut
    have hnx := I.cur.hnext
    refine hk γ' _ w' ⟨I.cur, I.fin, fun k hk => hk.elim (I.sub k) (fun e => e ▸ hi), fun k hk hn => I.calm k hk fun h => hn (.inl h), Inv.down' I.down ho hp, h2, I.glob.mono h3, t1.trans I.sz, t2, t3,
      fun k hk hn => h4 _ (by omega) (fun e => hn (.inr (by omega))) (I.free k hk fun h => hn (.inl h)), I.le.trans h3, fun x hx hx0 => ?_, I.below.trans h5, by rw [Act.put_defers]; exact I.dfr⟩
    obtain ⟨q1, q2⟩ := I.out x hx hx0
    exact ⟨h4 x (by omega) (by omega) q1, q2⟩
  unfold wpOpIn
  simp only [ho]
  rw [I.want hR ho hp]
  cases hw : wantedA fr.T ops o with
  | false =>
    simp only [Bool.false_eq_true, if_false]
    refine ⟨fun _ _ => trivial, ?_⟩
    refine hput γ undef w ?_ I.rel (Gam.le.refl γ) (fun _ _ _ h => h) (Below.refl B w)
    rw [hno hw]
    exact .tuple .nil
  | true =>
    simp only [if_true]
    obtain ⟨v, H', ha, hT, hsame⟩ := hyes hw
    have hfrm := calm_frame hcalm ha
    refine op_step hC hc hr I.rel I.glob (I.free i hil hD) (I.er hR ho hp) ha .val fun γ' v' w' h1 h2 h3 h4 => ?_
    have hget : ∀ x, H'.get x = H.get x := fun x => by
      by_cases e : x = base + i
      · subst e; exact hsame
      · exact hfrm.get e
    have hnx := I.cur.hnext
    have hnext : H'.next = H.next := by
      rcases hfrm with rfl | ⟨obj, rfl⟩
      · rfl
      · rw [AHeap.put_next]; omega
    refine hput γ' v' w' (by rw [hT]; exact h1) (h2.junk (fun x _ _ => (hget x).symm) fun x g hx => by rw [← hnext]; exact h2.dom x g hx) h3.le (fun x hx hne hn => (h3.out x hx hne hn).1) h4
end
end
end Go.AM

/- The abstract machine, part 26: a region whose order is open, to its end. -/
namespace Go.AM
open Go Go.RowKit
noncomputable section

inductive DfRel (γ : Gam) : Dfr → Deferred → Prop
  | mark {x : Nat} {g : G} (h : γ x = some g) : DfRel γ (.mark x) { target := .collected g.b, args := #[] }
  | call {f : FuncId} {args : List Value} {d : Deferred} {cap : Array Value} (h : d.target = .fn (.func f) cap) (ha : VsRel γ args (d.args ++ cap).toList) : DfRel γ (.call f args) d
inductive DsRel (γ : Gam) : List Dfr → List Deferred → Prop
  | nil : DsRel γ [] []
  | cons {x : Dfr} {d : Deferred} {l : List Dfr} {l' : List Deferred} (h : DfRel γ x d) (hl : DsRel γ l l') : DsRel γ (x :: l) (d :: l')
theorem DfRel.mono {γ γ' : Gam} (hle : γ.le γ') {x : Dfr} {d : Deferred} (h : DfRel γ x d) : DfRel γ' x d := by
  cases h with
  | mark h => exact .mark (hle _ _ h)
  | call h ha => exact .call h (ha.mono hle)
theorem DsRel.mono {γ γ' : Gam} (hle : γ.le γ') {l : List Dfr} {l' : List Deferred} (h : DsRel γ l l') : DsRel γ' l l' := by
  induction h with
  | nil => exact .nil
  | cons h _ ih => exact .cons (h.mono hle) ih

def ExRel : Ex → Exit → Prop
  | .normal, .normal => True
  | .exit i, .exit j => i = j
  | .ret, .ret => True
  | _, _ => False

/-- What a piece of code comes to. -/
def CPost (γ : Gam) (B : Nat) (H : AHeap) (w : World) (rd : Option Nat) (r : Res) (e' : Exit) (a' : Act) (w' : World) : Prop :=
  ∃ e fr' H' γ', r = .code e fr' H' ∧ ExRel e e' ∧ fr'.rd = rd ∧ Rel γ' B H' w' ∧ Ext γ γ' H H' ∧ TRel γ' fr'.T fr'.n a'.tmps ∧ DsRel γ' fr'.ds a'.defers ∧ Below B w w'

section
variable {C : Cy} {P : Program} {ops : Array Oper} {bm : List Nat} {base : Nat} {fr0 : Fr} {rF : Res} {γ0 : Gam} {B : Nat} {H0 : AHeap} {w0 : World} {df : List Deferred}

theorem eff_step {fm : Nat} (hC : C.Fits P) (hS : ∀ f0, f0 < fm → CallOk C P f0 ∧ RoundOk C P f0) {D : Nat → Prop} {f : Nat} {l seen : List Nat} {fr : Fr} {H : AHeap} {γ : Gam} {a : Act} {w : World} (hfm : f ≤ fm) (hR : Reg ops bm)
    (I : Inv C P ops bm base fr0 rF γ0 B H0 w0 df D f l seen fr H γ a w) {i : Nat} {o : Oper} (ho : ops[i]? = some o) (hp : Ready D o) (hi : i ∉ seen) {ro : Option Nat} {K : Act → World → Prop} {Q : Exit → Act → World → Prop}
    (hk : ∀ f' l' seen' fr' H' γ' a' w', f' < f → Inv C P ops bm base fr0 rF γ0 B H0 w0 df (fun k => D k ∨ k = i) f' l' seen' fr' H' γ' a' w' → K a' w') : wpOpIn (fen ro) 0 P ops Q i K a w := by
  have hil : i < ops.size := (Array.getElem?_eq_some_iff.1 ho).1
  have hD : ¬ D i := fun h => hi (I.sub i h)
  obtain ⟨⟨head, hh1, hh2, hcl⟩, _⟩ := I.stage
  have hhead : i = head := by
    rcases closedOk_spec hcl (mem_zip.2 ho) with h | h | h
    · exact absurd (maskOf_iff.1 h) hi
    · exact h
    · obtain ⟨k, hk1, hk2⟩ := subMask_not h
      obtain ⟨e, he, hb, rfl⟩ := predMask_iff.1 hk1
      rw [maskOf_iff.2 (I.sub _ (hp e he hb))] at hk2
      cases hk2
  rcases I.fin with rfl | ⟨i', l', o', rfl, ho', he⟩
  · have := (hh2 rfl).1; omega
  have := hh1 i' l' rfl
  have : i = i' := by omega
  subst this
  rw [ho] at ho'
  cases ho'
  have hr := I.cur.hrun
  have hnx := I.cur.hnext
  cases f with
  | zero => simp [run] at hr
  | succ f =>
    rw [run] at hr
    simp only [ho] at hr
    obtain ⟨hfresh, hr⟩ := bif_some hr
    rw [he, cond_true] at hr
    obtain ⟨_, hr⟩ := bif_some hr
    have hSf := hS f (by omega)
    have cont : ∀ γ' v v' w' H1 fr1, fr.put o.dst v = some fr1 → run C P f (.dops ops bm base l' (i :: seen) fr1) H1 = some rF → VRel γ' v v' → Rel γ' B H1 w' → ExtX H.next γ γ' H H1 → Below B w w' → K (a.put o.dst v') w' := fun γ' v v' w' H1 fr1 hput hrun hv hrel hext hbel => by
      obtain ⟨f2, l2, seen2, fr2, H2, g1, c2, g3, g4, g5, g6, g7, g8⟩ := Curs.advance f l' (i :: seen) fr1 H1 (I.cur.step ho hfresh hput hrun hext.next)
      have hnew : ∀ k ok d, ops[k]? = some ok → ok.dst = some d → k ∈ i :: seen → fr2.T.get d = fr1.T.get d := fun k ok d hok hd hks => g8 d fun j hj hjn oj hoj hdj => by
        have := hR.uniq j k oj ok d hoj hok hdj hd
        subst this
        exact hjn hks
      obtain ⟨t1, t2, t3⟩ := Inv.tmps (fr0 := fr0) (fr := fr) (fr' := fr2) (a := a) (v' := v') hR hext.le ho hD (fun d hd => by rw [I.sz]; exact c2.hdn i (g4 i (.head _)) o d ho hd)
        (fun d hd => by rw [hnew i o d ho hd (.head _), Fr.put_get hput, if_pos hd]; exact hv)
        (fun k hk ok d hok hd => by
          rw [hnew k ok d hok hd (.tail _ (I.sub k hk)), Fr.put_get hput, if_neg]
          intro hod
          exact hD (hR.uniq i k o ok d ho hok hod hd ▸ hk))
        I.tIn I.tOut
      have hout : ∀ x, x < H.next → γ x = none → γ' x = none ∧ H1.get x = H.get x := fun x hx hn => hext.out x hx (by omega) hn
      have hfree : ∀ k, k < ops.size → ¬ (D k ∨ k = i) → γ' (base + k) = none := fun k hk hn => (hout _ (by omega) (I.free k hk fun h => hn (.inl h))).1
      have hsome : ∀ x g, γ' x = some g → H2.get x = H1.get x := fun x g hx => g6 x fun j hj hjn e => by
        subst e
        have hjs : j < ops.size := c2.ord.lt j hj
        rw [hfree j hjs fun h => h.elim (fun h => hjn (.tail _ (I.sub j h))) fun h => hjn (by rw [h]; exact .head _)] at hx
        cases hx
      refine hk f2 l2 seen2 fr2 H2 γ' _ w' (by omega) ⟨c2, g3, fun k hk => hk.elim (fun h => g4 k (.tail _ (I.sub k h))) (fun h => g4 k (by rw [h]; exact .head _)), fun k hk hn ok hok => ?_, Inv.down' I.down ho hp,
        hrel.junk hsome (fun x g hx => Nat.lt_of_lt_of_le (hrel.dom x g hx) g7), I.glob.mono hext.le, t1.trans I.sz, t2, t3, hfree, I.le.trans hext.le, fun x hx hx0 => ?_, I.below.trans hbel, by rw [Act.put_defers]; exact I.dfr⟩
      · by_cases hks : k ∈ seen
        · exact I.calm k hks (fun h => hn (.inl h)) ok hok
        · exact g5 k hk (fun hm => (List.mem_cons.1 hm).elim (fun e => hn (.inr e)) hks) ok hok
      · obtain ⟨q1, q2⟩ := I.out x hx hx0
        obtain ⟨q3, q4⟩ := hout x (by omega) q1
        exact ⟨q3, by rw [g6 x (fun j _ _ => by omega), q4, q2]⟩
    unfold wpOpIn
    simp only [ho]
    rw [I.want hR ho hp]
    cases hw : wantedA fr.T ops o with
    | false =>
      rw [hw, cond_false] at hr
      simp only [Bool.false_eq_true, if_false]
      refine ⟨fun _ _ => trivial, ?_⟩
      split at hr
      · rename_i fr1 hput
        exact cont γ unk undef w H fr1 hput hr (.tuple .nil) I.rel (Ext.refl γ H).x (Below.refl B w)
      · cases hr
    | true =>
      rw [hw, cond_true] at hr
      simp only [if_true]
      split at hr
      · rename_i v H1 ha
        split at hr
        · rename_i fr1 hput
          exact op_step hC hSf.1 hSf.2 I.rel I.glob (I.rel.fresh (Nat.le_refl _)) (I.er hR ho hp) ha .val fun γ' v' w' h1 h2 h3 h4 => cont γ' v v' w' H1 fr1 hput hr h1 h2 h3 h4
        · cases hr
      · rename_i g args ha
        split at hr
        · rename_i v H1 hcall
          split at hr
          · rename_i fr1 hput
            exact op_step hC hSf.1 hSf.2 I.rel I.glob (I.rel.fresh (Nat.le_refl _)) (I.er hR ho hp) ha (.enter hcall) fun γ' v' w' h1 h2 h3 h4 => cont γ' v v' w' H1 fr1 hput hr h1 h2 h3 h4
          · cases hr
        · cases hr
      · rename_i x args ha
        split at hr
        · rename_i v H1 hcall
          split at hr
          · rename_i fr1 hput
            exact op_step hC hSf.1 hSf.2 I.rel I.glob (I.rel.fresh (Nat.le_refl _)) (I.er hR ho hp) ha (.round hcall) fun γ' v' w' h1 h2 h3 h4 => cont γ' v v' w' H1 fr1 hput hr h1 h2 h3 h4
          · cases hr
        · cases hr
      · cases hr

/-- Nothing may come up any more: it is the end. -/
theorem Inv.done {D : Nat → Prop} {f : Nat} {l seen : List Nat} {fr : Fr} {H : AHeap} {γ : Gam} {a : Act} {w : World} (I : Inv C P ops bm base fr0 rF γ0 B H0 w0 df D f l seen fr H γ a w)
    (h : ∀ i o, ops[i]? = some o → ¬ D i → ¬ Ready D o) : rF = .code .normal fr H ∧ TRel γ fr.T fr.n a.tmps := by
  have hall : ∀ i ∈ seen, D i := fun i hi => Classical.byContradiction fun hn => by
    obtain ⟨j, _, hjD, o, ho, hp⟩ := I.cur.ord.first ⟨i, hi, hn⟩
    exact h j o ho hjD hp
  obtain ⟨⟨head, _, hh2, _⟩, _⟩ := I.stage
  rcases I.fin with rfl | ⟨i, l', o, rfl, ho, he⟩
  · obtain ⟨_, hlen, hrF⟩ := hh2 rfl
    refine ⟨hrF, by rw [I.cur.hn]; exact I.sz, fun t => ?_⟩
    by_cases hw : ∃ (k : Nat) (ok : Oper), ops[k]? = some ok ∧ ok.dst = some t
    · obtain ⟨k, ok, hk, hd⟩ := hw
      have hks := nodup_all I.cur.ord.nodup I.cur.ord.lt (by omega) k (Array.getElem?_eq_some_iff.1 hk).1
      exact I.tIn k (hall k hks) ok t hk hd
    · rw [I.cur.hT t fun i _ o ho hd => hw ⟨i, o, ho, hd⟩]
      exact I.tOut t fun i _ o ho hd => hw ⟨i, o, ho, hd⟩
  · exfalso
    have hr := I.cur.hrun
    cases f with
    | zero => simp [run] at hr
    | succ f =>
      rw [run] at hr
      simp only [ho] at hr
      obtain ⟨hfresh, _⟩ := bif_some hr
      obtain ⟨q1, q2⟩ := freshOk_spec (ops := ops) hfresh
      exact h i o ho (fun hD => q1 (I.sub i hD)) fun e he hb => hall _ (q2 e he hb)

theorem draw_go {fm : Nat} (hC : C.Fits P) (hS : ∀ f0, f0 < fm → CallOk C P f0 ∧ RoundOk C P f0) (hR : Reg ops bm) {ro : Option Nat} {Q : Exit → Act → World → Prop}
    (hQ : ∀ D f l seen fr H γ a w, Inv C P ops bm base fr0 rF γ0 B H0 w0 df D f l seen fr H γ a w → (∀ i o, ops[i]? = some o → ¬ D i → ¬ Ready D o) → Q .normal a w) :
    ∀ (fuel : Nat) (listed : Array Bool) (done : List Nat) (f : Nat) (l seen : List Nat) (fr : Fr) (H : AHeap) (γ : Gam) (a : Act) (w : World), f ≤ fm → listed.size = ops.size → (∀ i, listed.getD i false = true ↔ i ∈ done) → done.Nodup → (∀ i ∈ done, i < ops.size) →
      ops.size ≤ done.length + fuel → Inv C P ops bm base fr0 rF γ0 B H0 w0 df (fun k => k ∈ done) f l seen fr H γ a w → wpAnyIn (fen ro) 0 P .any ops Q fuel listed a w := by
  intro fuel
  induction fuel with
  | zero =>
    intro listed done f l seen fr H γ a w hf hsz hl hnd hlt hlen I
    have hall := nodup_all hnd hlt (by omega)
    refine ⟨?_, hQ _ f l seen fr H γ a w I fun i o ho hn => absurd (hall i (Array.getElem?_eq_some_iff.1 ho).1) hn⟩
    cases hr : Region.ready .any ops listed with
    | nil => rfl
    | cons j rs =>
      have hj : j ∈ Region.ready .any ops listed := by rw [hr]; exact .head _
      obtain ⟨h1, o, ho, _⟩ := mem_ready.1 hj
      have hjl := (Array.getElem?_eq_some_iff.1 ho).1
      have := (hl j).2 (hall j hjl)
      rw [Array.getD_eq_getD_getElem?] at this h1
      rw [Array.getElem?_eq_getElem (by omega)] at this h1
      simp at this h1
      rw [this] at h1
      cases h1
  | succ fuel ih =>
    intro listed done f l seen fr H γ a w hf hsz hl hnd hlt hlen I
    have hrdy : ∀ i o, ops[i]? = some o → i ∉ done → Ready (fun k => k ∈ done) o → i ∈ Region.ready .any ops listed := fun i o ho hn hp => mem_ready.2 ⟨by
      have hil := (Array.getElem?_eq_some_iff.1 ho).1
      have := mt (hl i).1 hn
      rw [Array.getD_eq_getD_getElem?, Array.getElem?_eq_getElem (by omega)] at this ⊢
      simpa using this, o, ho, fun e he hb => (hl e.on).2 (hp e he hb)⟩
    refine ⟨fun h0 => hQ _ f l seen fr H γ a w I fun i o ho hn hp => ?_, fun i hi => ?_⟩
    · have := hrdy i o ho hn hp
      rw [h0] at this
      cases this
    · obtain ⟨h1, o, ho, h2⟩ := mem_ready.1 hi
      have hil := (Array.getElem?_eq_some_iff.1 ho).1
      have hn : i ∉ done := fun hm => by
        have := (hl i).2 hm
        rw [Array.getD_eq_getD_getElem?, Array.getElem?_eq_getElem (by omega)] at this h1
        simp at this h1
        rw [this] at h1
        cases h1
      have hp : Ready (fun k => k ∈ done) o := fun e he hb => (hl e.on).1 (h2 e he hb)
      have heq : (fun k => k ∈ done ∨ k = i) = fun k => k ∈ i :: done := funext fun k => propext (by rw [List.mem_cons, or_comm])
      have next : ∀ f' l' seen' fr' H' γ' a' w', f' ≤ f → Inv C P ops bm base fr0 rF γ0 B H0 w0 df (fun k => k ∈ done ∨ k = i) f' l' seen' fr' H' γ' a' w' → wpAnyIn (fen ro) 0 P .any ops Q fuel (listed.setIfInBounds i true) a' w' := fun f' l' seen' fr' H' γ' a' w' hf' I' => by
        rw [heq] at I'
        refine ih _ (i :: done) f' l' seen' fr' H' γ' a' w' (by omega) (by simpa using hsz) (fun k => ?_) (List.nodup_cons.2 ⟨hn, hnd⟩) (fun k hk => (List.mem_cons.1 hk).elim (fun e => by omega) (hlt k)) (by simp only [List.length_cons]; omega) I'
        rw [List.mem_cons, ← hl k]
        by_cases e : k = i
        · subst e
          have : k < listed.size := by omega
          simp [this]
        · rw [Array.getD_eq_getD_getElem?, Array.getElem?_setIfInBounds_ne (Ne.symm e), ← Array.getD_eq_getD_getElem?]
          simp [e]
      by_cases hs : i ∈ seen
      · cases f with
        | zero => have := I.cur.hrun; simp [run] at this
        | succ f =>
          have hSf := hS f (by omega)
          exact calm_step hC hSf.1 hSf.2 hR I ho hp hs hn fun γ' a' w' I' => next (f + 1) l seen fr H γ' a' w' (Nat.le_refl _) I'
      · exact eff_step hC hS hf hR I ho hp hs fun f' l' seen' fr' H' γ' a' w' hlt I' => next f' l' seen' fr' H' γ' a' w' (Nat.le_of_lt hlt) I'
end

theorem bump_get (H : AHeap) (n x : Nat) : (⟨n, H.t⟩ : AHeap).get x = H.get x := rfl

/-- A region whose order is open. -/
theorem draw_sound {C : Cy} {P : Program} {fm : Nat} (hC : C.Fits P) (hS : ∀ f0, f0 < fm → CallOk C P f0 ∧ RoundOk C P f0) {ops : Array Oper} {id : Nat} {γ : Gam} {B : Nat} {H : AHeap} {w : World} {fr : Fr} {a : Act} {r : Res} {f : Nat} {l : List Nat} {ro : Option Nat}
    (hf : f ≤ fm) (hreg : regOk ops (befs ops.toList []) ops.toList.zipIdx ops.toList.zipIdx = true) (hR : Rel γ B H w) (hG : C.GlobOk γ) (hT : TRel γ fr.T fr.n a.tmps) (hD : DsRel γ fr.ds a.defers)
    (h : run C P f (.dops ops (befs ops.toList []) H.next l [] fr) ⟨H.next + ops.size, H.t⟩ = some r) : (Code.region id ops true).wpIn (fen ro) 0 P (CPost γ B H w fr.rd r) a w := by
  refine wpIn_region_any hC.mixed ?_
  have c0 : Curs C P ops (befs ops.toList []) H.next fr r f l [] fr ⟨H.next + ops.size, H.t⟩ := ⟨h, trivial, rfl, rfl, rfl, fun _ _ => rfl, fun i hi => (by cases hi), Nat.le_refl _⟩
  obtain ⟨f2, l2, seen2, fr2, H2, g1, c2, g3, g4, g5, g6, g7, g8⟩ := c0.advance
  have hlow : ∀ x, x < H.next → H2.get x = H.get x := fun x hx => by rw [g6 x fun j _ _ => by omega]; rfl
  refine draw_go (fm := fm) (base := H.next) (fr0 := fr) (rF := r) (γ0 := γ) (B := B) (H0 := H) (w0 := w) (df := a.defers) hC hS (Reg.of_ok hreg) ?_ ops.size _ [] f2 l2 seen2 fr2 H2 γ a _ (by omega) (by simp) (fun i => ?_) List.nodup_nil (fun i hi => (by cases hi)) (by simp) ?_
  · intro D f' l' seen' fr' H' γ' a' w' I hno
    obtain ⟨h1, h2⟩ := I.done hno
    refine ⟨.normal, fr', H', γ', h1, trivial, I.cur.hrd, I.rel, ⟨I.le, ?_, I.out⟩, h2, ?_, I.below⟩
    · have := I.cur.hnext; omega
    · rw [I.cur.hds, I.dfr]
      exact hD.mono I.le
  · simp [Array.getD_eq_getD_getElem?, Array.getElem?_replicate]
    split <;> rfl
  · refine ⟨c2, g3, fun i hi => (by cases hi), fun i hi _ => g5 i hi (by simp), fun i o ho hi => (by cases hi), ?_, hG, hT.1, fun i hi => (by cases hi), fun t _ => hT.2 t, fun i _ _ => hR.fresh (by omega), Gam.le.refl γ, fun x hx hn => ⟨hn, hlow x hx⟩, ?_, rfl⟩
    · have hR' : Rel γ B H { w with drawn := w.drawn + 1 } := hR.of_heap rfl
      refine hR'.junk (fun x g hx => hlow x (hR.dom x g hx)) fun x g hx => ?_
      have := hR.dom x g hx
      have : H.next + ops.size ≤ H2.next := g7
      omega
    · exact ⟨rfl, rfl, rfl, Nat.le_refl _, fun _ _ => rfl⟩
end
end Go.AM

/- The abstract machine, part 27: what an activation begins with and hands back; loops; the record of a range over a function. -/
namespace Go.AM
open Go Go.RowKit
noncomputable section

theorem enterT_get : ∀ (l : List Value) (k : Nat) (T : PT Value) (i : Nat), (enterT k l T).get i = if k ≤ i ∧ i < k + l.length then l[i - k]? else T.get i
  | [], k, T, i => by simp only [enterT, List.length_nil]; rw [if_neg (by omega)]
  | v :: l, k, T, i => by
    rw [enterT, enterT_get l (k + 1), PT.get_set]
    simp only [List.length_cons]
    by_cases e : i = k
    · subst e
      rw [if_neg (by omega), if_pos rfl, if_pos (by omega)]
      simp
    · by_cases h : k + 1 ≤ i ∧ i < k + 1 + l.length
      · rw [if_pos h, if_pos (by omega)]
        have : i - k = (i - (k + 1)) + 1 := by omega
        rw [this, List.getElem?_cons_succ]
      · rw [if_neg h, if_neg e, if_neg (by omega)]

theorem TRel.enter {γ : Gam} {args : List Value} {args' : Array Value} {n : Nat} (h : VsRel γ args args'.toList) : TRel γ (enterT 0 args .nil) (Nat.max args.length n) (args' ++ Array.replicate (n - args'.size) undef) := by
  have hl : args.length = args'.size := by simpa using h.length
  refine ⟨by simp only [Array.size_append, Array.size_replicate]; have : Nat.max args.length n = max args.length n := rfl; omega, fun i => ?_⟩
  rw [enterT_get]
  simp only [PT.get_nil]
  rw [Array.getD_eq_getD_getElem?]
  by_cases hi : i < args.length
  · rw [if_pos (by omega)]
    obtain ⟨v', h1, h2⟩ := h.get (i := i) (List.getElem?_eq_getElem hi)
    rw [Array.getElem?_append_left (by omega)]
    have h1' : args'[i]? = some v' := by simpa using h1
    rw [h1', Nat.sub_zero, List.getElem?_eq_getElem hi]
    exact h2
  · rw [if_neg (by omega), Array.getElem?_append_right (by omega), Array.getElem?_replicate]
    split <;> exact .tuple .nil

theorem setPs_rel {γ : Gam} {n : Nat} : ∀ {ps : List Tmp} {args : List Value} {args' : List Value} {T T' : PT Value} {tmps : Array Value}, setPs n ps args T = some T' → VsRel γ args args' → TRel γ T n tmps →
    TRel γ T' n ((ps.zip args').foldl (fun (tmps : Array Value) (t, a) => tmps.setIfInBounds t a) tmps) ∧ args'.length = ps.length
  | [], [], _, T, T', tmps, h, ha, hT => by cases ha; cases h; exact ⟨hT, rfl⟩
  | t :: ps, v :: args, _, T, T', tmps, h, ha, hT => by
    cases ha with
    | cons hv hl =>
      rename_i v' l'
      rw [setPs] at h
      obtain ⟨hb, h⟩ := bif_some h
      rw [Nat.blt_eq] at hb
      have := setPs_rel (tmps := tmps.setIfInBounds t v') h hl ⟨by simp [hT.1], fun i => by
        rw [PT.get_set]
        by_cases e : i = t
        · subst e
          have : i < tmps.size := by rw [hT.1]; exact hb
          simp [this, hv]
        · rw [if_neg e, Array.getD_eq_getD_getElem?, Array.getElem?_setIfInBounds_ne (Ne.symm e), ← Array.getD_eq_getD_getElem?]
          exact hT.2 i⟩
      exact ⟨this.1, by simp [this.2]⟩
  | [], _ :: _, _, _, _, _, h, _, _ => by cases h
  | _ :: _, [], _, _, _, _, h, _, _ => by cases h

section
variable {C : Cy} {P : Program} {γ : Gam} {B : Nat} {H : AHeap} {w : World}

theorem aload_var (hC : C.Fits P) (r : Rel γ B H w) {t : TypeId} {p p' v : Value} (hp : VRel γ p p') (h : aload C.toCx H t p = some v) : ∃ v', (do loadVar t (← asAddr p') : Sem Value).run P w = .ok v' w ∧ VRel γ v v' := by
  unfold aload at h
  split at h
  · cases hp with
    | ptr hx =>
      obtain ⟨v', h1, h2⟩ := aloadA_sound (P := P) hC.x r hx h
      exact ⟨v', by simpa [asAddr] using h1, h2⟩
  · cases h
theorem resultsA_list (hC : C.Fits P) (r : Rel γ B H w) {T : PT Value} {n : Nat} {tmps : Array Value} (hT : TRel γ T n tmps) {f : ResultVar → Sem Value} (f1 : ∀ t, f (.tmp t) = pure (tmps.getD t undef))
    (f2 : ∀ a t, f (.cell a t) = (do loadVar t (← asAddr (tmps.getD a undef)))) : ∀ {l : List ResultVar} {vs : List Value}, resultsA C H T l = some vs →
    ∃ vs', (l.mapM f).run P w = .ok vs' w ∧ VsRel γ vs vs'
  | [], vs, h => by cases h; exact ⟨[], rfl, .nil⟩
  | .tmp t :: l, vs, h => by
    simp only [resultsA] at h
    split at h
    · rename_i r' hr
      cases h
      obtain ⟨vs', h1, h2⟩ := resultsA_list hC r hT f1 f2 hr
      have := hT.2 t
      refine ⟨tmps.getD t undef :: vs', ?_, .cons ?_ h2⟩
      · simp only [List.mapM_cons, Sem.run_bind, f1, Sem.run_pure, Result.andThen_ok, h1]
      · cases hg : T.get t with
        | none => rw [hg] at this; exact this
        | some v => rw [hg] at this; exact this
    · cases h
  | .cell a t :: l, vs, h => by
    simp only [resultsA] at h
    split at h
    · rename_i p hp
      split at h
      · rename_i v r' hv hr
        cases h
        obtain ⟨vs', h1, h2⟩ := resultsA_list hC r hT f1 f2 hr
        have hpa := hT.2 a
        rw [hp] at hpa
        obtain ⟨v', h3, h4⟩ := aload_var (w := w) (P := P) hC r hpa hv
        refine ⟨v' :: vs', ?_, .cons h4 h2⟩
        have h5 : (f (.cell a t)).run P w = .ok v' w := by rw [f2]; exact h3
        rw [List.mapM_cons, Sem.run_bind, h5]
        simp only [Sem.run_bind, Sem.run_pure, Result.andThen_ok, h1]
      · cases h
    · cases h

/-- What an activation hands back. -/
def resVal : List Value → Value
  | [v] => v
  | vs => .tuple ⟨vs⟩
theorem results_of_list (hC : C.Fits P) (r : Rel γ B H w) {T : PT Value} {n : Nat} {tmps : Array Value} (hT : TRel γ T n tmps) {f : ResultVar → Sem Value} (f1 : ∀ t, f (.tmp t) = pure (tmps.getD t undef))
    (f2 : ∀ a t, f (.cell a t) = (do loadVar t (← asAddr (tmps.getD a undef)))) {fn : Func} {vs : List Value} (h : resultsA C H T fn.results.toList = some vs) :
    ∃ v', (do let vs ← fn.results.mapM f; pure (if h : vs.size = 1 then vs[0] else .tuple vs) : Sem Value).run P w = .ok v' w ∧ VRel γ (resVal vs) v' := by
  obtain ⟨vs', h1, h2⟩ := resultsA_list hC r hT f1 f2 h
  rw [Sem.run_bind]
  rw [Array.mapM_eq_mapM_toList]
  simp only [Sem.run_map, h1, Result.andThen_ok, Sem.run_pure]
  refine ⟨_, rfl, ?_⟩
  cases h2 with
  | nil => exact .tuple .nil
  | cons a hl => cases hl with
    | nil => simpa [resVal] using a
    | cons b hl =>
      rw [dif_neg (by simp)]
      exact .tuple (.cons a (.cons b hl))
theorem results_sound (hC : C.Fits P) (r : Rel γ B H w) {T : PT Value} {n : Nat} {tmps : Array Value} (hT : TRel γ T n tmps) {fn : Func} {vs : List Value} (h : resultsA C H T fn.results.toList = some vs) :
    ∃ v', (results fn tmps).run P w = .ok v' w ∧ VRel γ (resVal vs) v' := by
  unfold results
  exact results_of_list hC r hT (fun _ => rfl) (fun _ _ => rfl) h
end

section
variable {F : Fence} {n : Nat} {P : Program}

/-- A loop, by what holds ahead of each round, the rounds counted down. -/
theorem wpIn_loop_ind {c : Code} {Q : Exit → Act → World → Prop} (G : Nat → Act → World → Prop) (round : ∀ j a w, G j a w → c.wpIn F n P (Exit.then (fun a' w' => ∃ j', j' < j ∧ G j' a' w') Q) a w) {j : Nat} {a : Act} {w : World} (h : G j a w) :
    (Code.loop c).wpIn F n P Q a w := by
  intro b k cs hro hb hr
  have key : ∀ j a w, G j a w →
      ∃ e a' w', Q e a' w' ∧ ArrivesIn (Machine.fenced P F) P (lone (b.atR a (.code c :: .inLoop c :: k)) cs w) b k cs e a' w' := by
    intro j
    induction j using Nat.strongRecOn with
    | _ j ih =>
      intro a w hI
      obtain ⟨e, a₁, w₁, hq, harr⟩ := round j a w hI b (.inLoop c :: k) cs hro hb hr
      cases e with
      | normal =>
        obtain ⟨j', hlt, hI₁⟩ := hq
        obtain ⟨e₂, a₂, w₂, hq₂, harr₂⟩ := ih j' hlt a₁ w₁ hI₁
        exact ⟨e₂, a₂, w₂, hq₂, .of_steps (StepsIn.trans harr (.one (fenced_calm hb hr rfl) stepR_inLoop)) harr₂⟩
      | exit id => exact ⟨_, a₁, w₁, hq, .pass (x := .inLoop c) rfl (fun _ _ => .inl (by simp)) harr⟩
      | goto l => exact ⟨_, a₁, w₁, hq, .pass (x := .inLoop c) rfl (fun _ _ => .inl (by simp)) harr⟩
      | ret => exact ⟨_, a₁, w₁, hq, .pass (x := .inLoop c) rfl (fun _ _ => .inl (by simp)) harr⟩
      | panic ch => exact ⟨_, a₁, w₁, hq, .pass (x := .inLoop c) rfl (fun _ _ => .inl (by simp)) harr⟩
      | outgrown => exact ⟨_, a₁, w₁, hq, .pass (x := .inLoop c) rfl (fun _ _ => .inl (by simp)) harr⟩
  obtain ⟨e, a', w', hq, harr⟩ := key j a w h
  exact ⟨e, a', w', hq, .of_steps (.one (fenced_calm hb hr rfl) stepR_loop) harr⟩

/-- A block, in the body of a deferred call. -/
theorem wpSIn_block {id : Nat} {c : Code} {Q : Exit → Act → List Frame → World → Prop} {a : Act} {cs : List Frame} {w : World} (h : c.wpSIn F n P (fun e a cs w => Exit.inBlock id (fun e a w => Q e a cs w) e a w) a cs w) : (Code.block id c).wpSIn F n P Q a cs w := by
  intro b k hbk hro hb hr
  have h0 : (lone (b.atR a (.code (.block id c) :: k)) cs w).fenced P F := fenced_calm hb hr rfl
  obtain ⟨e, a₁, cs₁, w₁, hl, hq, harr⟩ := h b (.inBlock id :: k) hbk hro hb hr
  cases e with
  | normal => exact ⟨.normal, a₁, cs₁, w₁, hl, hq, .head h0 stepR_block (StepsIn.trans harr (.one (fenced_calm hb (hl ▸ hr) rfl) stepR_inBlock))⟩
  | exit id' =>
    by_cases hid : id' = id
    · simp only [Exit.inBlock, hid, if_true] at hq
      exact ⟨.normal, a₁, cs₁, w₁, hl, hq, .head h0 stepR_block (harr.1 k (by simp [exitTo, hid]))⟩
    · simp only [Exit.inBlock, hid, if_false] at hq
      have this : (id == id') = false := by simp; exact fun h => hid h.symm
      have hx : exitTo id' (.inBlock id :: k) = exitTo id' k := by simp [exitTo, this]
      exact ⟨.exit id', a₁, cs₁, w₁, hl, hq, fun k' hk => .head h0 stepR_block (harr.1 k' (by rw [hx]; exact hk)),
        fun hr' hk => let ⟨k₁, h1, h2⟩ := harr.2 hr' (by rw [hx]; exact hk); ⟨k₁, h1, .head h0 stepR_block h2⟩⟩
  | goto l =>
    have hx : gotoIn l (.inBlock id :: k) = gotoIn l k := by simp [gotoIn]
    exact ⟨_, a₁, cs₁, w₁, hl, hq, fun k' hk => .head h0 stepR_block (harr.1 k' (by rw [hx]; exact hk)),
      fun hr' hk => let ⟨k₁, h1, h2⟩ := harr.2 hr' (by rw [hx]; exact hk); ⟨k₁, h1, .head h0 stepR_block h2⟩⟩
  | ret => exact ⟨_, a₁, cs₁, w₁, hl, hq, .of_steps (.one h0 stepR_block) harr⟩
  | panic ch => exact ⟨_, a₁, cs₁, w₁, hl, hq, .of_steps (.one h0 stepR_block) harr⟩
  | outgrown => exact ⟨_, a₁, cs₁, w₁, hl, hq, .of_steps (.one h0 stepR_block) harr⟩
end

/-- An object that is no row of cells is turned. -/
theorem Rel.putObj {γ : Gam} {B : Nat} {H : AHeap} {w : World} (r : Rel γ B H w) {x : Nat} {g : G} {o o' : AObj} {b' : Obj} (hx : γ x = some g) (ho : H.get x = some o) (hal : o.alive = true) (hown : o.own = true)
    (hn : ORel γ g (some b') o') : Rel γ B (H.put x o') (w.putObj g.b b') ∧ Ext γ γ H (H.put x o') ∧ Below B w (w.putObj g.b b') := by
  have hlt := r.lt x g hx
  have hsame : (w.putObj g.b b').heap[g.b]? = some b' := World.putObj_heap_same hlt
  refine ⟨r.upd hx ho hal hown World.putObj_size (fun k hk => World.putObj_heap_other hk) (by rw [hsame]; exact hn), Ext.upd hx _, ?_⟩
  refine ⟨rfl, rfl, rfl, Nat.le_of_eq World.putObj_size.symm, fun k hk => World.putObj_heap_other ?_⟩
  have := r.own x g _ hx ho hown
  omega
end
end Go.AM

/- The abstract machine, part 28: code. -/
namespace Go.AM
open Go Go.RowKit
noncomputable section

inductive RdRel (γ : Gam) : Option Nat → Option Nat → Prop
  | none : RdRel γ none none
  | some {x : Nat} {g : G} (h : γ x = some g) : RdRel γ (some x) (some g.b)
theorem RdRel.mono {γ γ' : Gam} (hle : γ.le γ') {rd ro : Option Nat} (h : RdRel γ rd ro) : RdRel γ' rd ro := by
  cases h with
  | none => exact .none
  | some h => exact .some (hle _ _ h)

def CodeOk (C : Cy) (P : Program) (f : Nat) : Prop := ∀ (γ : Gam) (B : Nat) (H : AHeap) (w : World) (c : Code) (fr : Fr) (a : Act) (r : Res) (ro : Option Nat),
  Rel γ B H w → C.GlobOk γ → TRel γ fr.T fr.n a.tmps → DsRel γ fr.ds a.defers → RdRel γ fr.rd ro → run C P f (.code c fr) H = some r → c.wpIn (fen ro) 0 P (CPost γ B H w fr.rd r) a w
def OpsOk (C : Cy) (P : Program) (f : Nat) : Prop := ∀ (γ : Gam) (B : Nat) (H : AHeap) (w : World) (ops : Array Oper) (l : List Nat) (fr : Fr) (a : Act) (r : Res) (ro : Option Nat) (Q : Exit → Act → World → Prop),
  Rel γ B H w → C.GlobOk γ → TRel γ fr.T fr.n a.tmps → DsRel γ fr.ds a.defers → RdRel γ fr.rd ro → run C P f (.ops ops l fr) H = some r → (∀ e a' w', CPost γ B H w fr.rd r e a' w' → Q e a' w') → wpOpsIn (fen ro) 0 P ops Q l a w
def LeaveOk (C : Cy) (P : Program) (f : Nat) : Prop := ∀ (γ : Gam) (B : Nat) (H : AHeap) (w : World) (ds : List Dfr) (fn : Func) (T : PT Value) (n : Nat) (tmps : Array Value) (dl : List Deferred) (v : Value) (H' : AHeap),
  Rel γ B H w → C.GlobOk γ → TRel γ T n tmps → DsRel γ ds dl → run C P f (.leave ds fn T) H = some (.val v H') → LeavesInM (fen none) 0 P fn tmps (VPost γ B H w v H') dl .returning w
def DcodeOk (C : Cy) (P : Program) (f : Nat) : Prop := ∀ (γ : Gam) (B : Nat) (H : AHeap) (w : World) (c : Code) (fr : Fr) (a : Act) (r : Res) (cs : List Frame),
  recoverD cs = none → fr.rd = none → Rel γ B H w → C.GlobOk γ → TRel γ fr.T fr.n a.tmps → DsRel γ fr.ds a.defers → run C P f (.dcode c fr) H = some r →
  c.wpSIn (fen none) 0 P (fun e a' cs' w' => cs' = cs ∧ CPost γ B H w none r e a' w') a cs w
def SopsOk (C : Cy) (P : Program) (f : Nat) : Prop := ∀ (γ : Gam) (B : Nat) (H : AHeap) (w : World) (ops : Array Oper) (l : List Nat) (fr : Fr) (a : Act) (r : Res) (cs : List Frame) (Q : Exit → Act → List Frame → World → Prop),
  recoverD cs = none → fr.rd = none → Rel γ B H w → C.GlobOk γ → TRel γ fr.T fr.n a.tmps → DsRel γ fr.ds a.defers → run C P f (.sops ops l fr) H = some r →
  (∀ e a' w', CPost γ B H w none r e a' w' → Q e a' cs w') → wpOpsSIn (fen none) 0 P ops Q l a cs w

structure Sound (C : Cy) (P : Program) (f : Nat) : Prop where
  code : CodeOk C P f
  ops : OpsOk C P f
  call : CallOk C P f
  leave : LeaveOk C P f
  round : RoundOk C P f
  dcode : DcodeOk C P f
  sops : SopsOk C P f

section
variable {C : Cy} {P : Program} {γ : Gam} {B : Nat} {H : AHeap} {w : World}

theorem CPost.of {γ1 : Gam} {H1 : AHeap} {w1 : World} {rd : Option Nat} {r : Res} {e : Exit} {a' : Act} {w' : World} (hx : Ext γ γ1 H H1) (hb : Below B w w1) (h : CPost γ1 B H1 w1 rd r e a' w') : CPost γ B H w rd r e a' w' := by
  obtain ⟨e1, fr1, H2, γ2, h1, h2, h3, h4, h5, h6, h7, h8⟩ := h
  exact ⟨e1, fr1, H2, γ2, h1, h2, h3, h4, hx.trans h5, h6, h7, hb.trans h8⟩
theorem CPost.here {fr : Fr} {a : Act} (hR : Rel γ B H w) (hT : TRel γ fr.T fr.n a.tmps) (hD : DsRel γ fr.ds a.defers) {e : Ex} {e' : Exit} (he : ExRel e e') : CPost γ B H w fr.rd (.code e fr H) e' a w :=
  ⟨e, fr, H, γ, rfl, he, rfl, hR, Ext.refl γ H, hT, hD, Below.refl B w⟩

theorem ops_step {f : Nat} (hC : C.Fits P) (hS : Sound C P f) : OpsOk C P (f + 1) := by
  intro γ B H w ops l fr a r ro Q hR hG hT hD hrd h hQ
  cases l with
  | nil =>
    rw [run] at h
    cases h
    exact hQ _ _ _ (CPost.here hR hT hD trivial)
  | cons i l =>
    rw [run] at h
    simp only at h
    split at h
    · rename_i o ho
      rw [wpOpsIn]
      simp only [ho]
      have hw : Region.wanted o (yielded ops a.tmps) = wantedA fr.T ops o := wanted_eq (n := 0) fun _ _ _ d _ _ _ => hT.2 d
      rw [hw]
      have hρ : ∀ x ∈ o.op.operands.toList, ER C γ fr.T a.eval x := fun x _ => er_of_trel hG hT x
      have cont : ∀ γ' v v' w' H1 fr1, fr.put o.dst v = some fr1 → run C P f (.ops ops l fr1) H1 = some r → VRel γ' v v' → Rel γ' B H1 w' → ExtX H.next γ γ' H H1 → Below B w w' → wpOpsIn (fen ro) 0 P ops Q l (a.put o.dst v') w' := fun γ' v v' w' H1 fr1 hput hrun hv hrel hext hbel => by
        obtain ⟨p1, p2, p3, _⟩ := Fr.put_spec hput
        have hx := hext.ext (Nat.le_refl _)
        exact hS.ops γ' B H1 w' ops l fr1 (a.put o.dst v') r ro Q hrel (hG.mono hx.le) ((hT.mono hx.le).put hv hput) (by rw [p2, Act.put_defers]; exact hD.mono hx.le) (by rw [p3]; exact hrd.mono hx.le) hrun
          fun e a' w' hp => hQ e a' w' (by rw [p3] at hp; exact hp.of hx hbel)
      cases hwd : wantedA fr.T ops o with
      | false =>
        rw [hwd, cond_false] at h
        simp only [Bool.false_eq_true, if_false]
        refine ⟨fun _ _ => trivial, ?_⟩
        split at h
        · rename_i fr1 hput
          exact cont γ unk undef w H fr1 hput h (.tuple .nil) hR (Ext.refl γ H).x (Below.refl B w)
        · cases h
      | true =>
        rw [hwd, cond_true] at h
        simp only [if_true]
        split at h
        · rename_i v H1 ha
          split at h
          · rename_i fr1 hput
            exact op_step hC hS.call hS.round hR hG (hR.fresh (Nat.le_refl _)) hρ ha .val fun γ' v' w' h1 h2 h3 h4 => cont γ' v v' w' H1 fr1 hput h h1 h2 h3 h4
          · cases h
        · rename_i g args ha
          split at h
          · rename_i v H1 hcall
            split at h
            · rename_i fr1 hput
              exact op_step hC hS.call hS.round hR hG (hR.fresh (Nat.le_refl _)) hρ ha (.enter hcall) fun γ' v' w' h1 h2 h3 h4 => cont γ' v v' w' H1 fr1 hput h h1 h2 h3 h4
            · cases h
          · cases h
        · rename_i x args ha
          split at h
          · rename_i v H1 hcall
            split at h
            · rename_i fr1 hput
              exact op_step hC hS.call hS.round hR hG (hR.fresh (Nat.le_refl _)) hρ ha (.round hcall) fun γ' v' w' h1 h2 h3 h4 => cont γ' v v' w' H1 fr1 hput h h1 h2 h3 h4
            · cases h
          · cases h
        · rename_i g args ha
          split at h
          · rename_i hnone
            split at h
            · rename_i fr1 hput
              obtain ⟨d, cap, args', q1, q2, q3, q4⟩ := aop_sound hC hR (hR.fresh (Nat.le_refl _)) hρ ha
              refine ⟨fun _ _ => trivial, ?_⟩
              have hro : (fen ro).round = none := by
                rw [hnone] at hrd
                cases hrd
                rfl
              rw [hro, Oper.semAt_none, q1]
              obtain ⟨p1, p2, p3, _⟩ := Fr.put_spec hput
              have hT' : TRel γ fr1.T fr1.n (({ a with defers := d :: a.defers } : Act).put o.dst undef).tmps := TRel.put (a := { a with defers := d :: a.defers }) hT (.tuple .nil) hput
              exact hS.ops γ B H w ops l { fr1 with ds := .call g args :: fr1.ds } (({ a with defers := d :: a.defers } : Act).put o.dst undef) r ro Q hR hG hT' (by
                rw [Act.put_defers]
                refine .cons (.call q3 (by rw [← q4]; exact q2)) ?_
                rw [p2]; exact hD) (by rw [show ({ fr1 with ds := .call g args :: fr1.ds } : Fr).rd = fr1.rd from rfl, p3]; exact hrd) h
                fun e a' w' hp => hQ e a' w' (by rw [show ({ fr1 with ds := .call g args :: fr1.ds } : Fr).rd = fr1.rd from rfl, p3] at hp; exact hp)
            · cases h
          · cases h
        · cases h
    · cases h
end
end
end Go.AM

/- The abstract machine, part 29: deferred calls; a call; a round. -/
namespace Go.AM
open Go Go.RowKit
noncomputable section

section
variable {C : Cy} {P : Program}

theorem sops_step {f : Nat} (hC : C.Fits P) (hS : Sound C P f) : SopsOk C P (f + 1) := by
  intro γ B H w ops l fr a r cs Q hcs hrd hR hG hT hD h hQ
  cases l with
  | nil =>
    rw [run] at h
    cases h
    refine hQ _ _ _ ?_
    have := CPost.here (e := .normal) (e' := .normal) hR hT hD trivial
    rw [hrd] at this
    exact this
  | cons i l =>
    rw [run] at h
    split at h
    · rename_i o ho
      rw [wpOpsSIn]
      simp only [ho]
      refine ⟨fun _ _ => trivial, ?_⟩
      have hw : Region.wanted o (yielded ops a.tmps) = wantedA fr.T ops o := wanted_eq (n := 0) fun _ _ _ d _ _ _ => hT.2 d
      rw [hw]
      have hρ : ∀ x ∈ o.op.operands.toList, ER C γ fr.T a.eval x := fun x _ => er_of_trel hG hT x
      have cont : ∀ γ' v v' w' H1 fr1, fr.put o.dst v = some fr1 → run C P f (.sops ops l fr1) H1 = some r → VRel γ' v v' → Rel γ' B H1 w' → ExtX H.next γ γ' H H1 → Below B w w' → wpOpsSIn (fen none) 0 P ops Q l (a.put o.dst v') cs w' := fun γ' v v' w' H1 fr1 hput hrun hv hrel hext hbel => by
        obtain ⟨p1, p2, p3, _⟩ := Fr.put_spec hput
        have hx := hext.ext (Nat.le_refl _)
        exact hS.sops γ' B H1 w' ops l fr1 (a.put o.dst v') r cs Q hcs (p3.trans hrd) hrel (hG.mono hx.le) ((hT.mono hx.le).put hv hput) (by rw [p2, Act.put_defers]; exact hD.mono hx.le) hrun
          fun e a' w' hp => hQ e a' w' (hp.of hx hbel)
      cases hwd : wantedA fr.T ops o with
      | false =>
        rw [hwd, cond_false] at h
        simp only [Bool.false_eq_true, if_false]
        split at h
        · rename_i fr1 hput
          exact cont γ unk undef w H fr1 hput h (.tuple .nil) hR (Ext.refl γ H).x (Below.refl B w)
        · cases h
      | true =>
        rw [hwd, cond_true] at h
        simp only [if_true]
        split at h
        · rename_i v H1 ha
          split at h
          · rename_i fr1 hput
            obtain ⟨γ', v', w', h1, h2, h3, h4, h5⟩ := aop_sound hC hR (hR.fresh (Nat.le_refl _)) hρ ha
            rcases h1 with h1 | ⟨h1, h1'⟩
            · rw [h1]; exact cont γ' v v' w' H1 fr1 hput h h2 h3 h4 h5
            · rw [h1]; subst h1'; exact cont γ' v undef w' H1 fr1 hput h h2 h3 h4 h5
          · cases h
        · rename_i ha
          split at h
          · rename_i fr1 hput
            have h1 : (execOp a.eval o).run P w = .ok .recover w := aop_sound hC hR (hR.fresh (Nat.le_refl _)) hρ ha
            rw [h1]
            simp only [hcs]
            exact cont γ .nilIface .nilIface w H fr1 hput h .nilIface hR (Ext.refl γ H).x (Below.refl B w)
          · cases h
        · cases h
    · cases h

theorem dcode_plain {f : Nat} (hS : Sound C P f) {γ : Gam} {B : Nat} {H : AHeap} {w : World} {c : Code} {fr : Fr} {a : Act} {r : Res} {cs : List Frame} (hrd : fr.rd = none)
    (hR : Rel γ B H w) (hG : C.GlobOk γ) (hT : TRel γ fr.T fr.n a.tmps) (hD : DsRel γ fr.ds a.defers) (h : run C P f (.code c fr) H = some r) :
    c.wpSIn (fen none) 0 P (fun e a' cs' w' => cs' = cs ∧ CPost γ B H w none r e a' w') a cs w := by
  refine wpSIn_of_wpIn rfl ?_
  have := hS.code γ B H w c fr a r none hR hG hT hD (by rw [hrd]; exact .none) h
  rw [hrd] at this
  exact wpIn_mono this fun e a' w' hp => ⟨rfl, hp⟩

theorem wpSIn_mono {F : Fence} {n : Nat} {c : Code} {Q Q' : Exit → Act → List Frame → World → Prop} {a : Act} {cs : List Frame} {w : World} (h : c.wpSIn F n P Q a cs w) (hq : ∀ e a cs w, Q e a cs w → Q' e a cs w) : c.wpSIn F n P Q' a cs w :=
  fun b k hk hr hb hroom => let ⟨e, a', cs', w', l, q, s⟩ := h b k hk hr hb hroom; ⟨e, a', cs', w', l, hq _ _ _ _ q, s⟩

theorem dcode_step {f : Nat} (hS : Sound C P f) : DcodeOk C P (f + 1) := by
  intro γ B H w c fr a r cs hcs hrd hR hG hT hD h
  cases c with
  | seq x y =>
    rw [run] at h
    refine wpSIn_seq ?_
    cases hx : run C P f (.dcode x fr) H with
    | none => rw [hx] at h; cases h
    | some r1 =>
      rw [hx] at h
      refine wpSIn_mono (hS.dcode γ B H w x fr a r1 cs hcs hrd hR hG hT hD hx) fun e a1 cs1 w1 hp => ?_
      obtain ⟨rfl, e1, fr1, H1, γ1, rfl, hex, hrd1, hR1, hx1, hT1, hD1, hb1⟩ := hp
      cases e1 with
      | normal =>
        cases e with
        | normal => exact wpSIn_mono (hS.dcode γ1 B H1 w1 y fr1 a1 r cs1 hcs hrd1 hR1 (hG.mono hx1.le) hT1 hD1 h) fun e a w hp h => ⟨h.1, h.2.of hx1 hb1⟩
        | _ => exact hex.elim
      | exit j =>
        cases h
        cases e with
        | exit id => exact ⟨rfl, _, _, _, γ1, rfl, hex, hrd1, hR1, hx1, hT1, hD1, hb1⟩
        | _ => exact hex.elim
      | ret =>
        cases h
        cases e with
        | ret => exact ⟨rfl, _, _, _, γ1, rfl, hex, hrd1, hR1, hx1, hT1, hD1, hb1⟩
        | _ => exact hex.elim
  | cond x y z =>
    rw [run] at h
    split at h
    · rename_i hc
      have h1 := er_of_trel hG hT x _ hc
      generalize hq : a.eval x = vx at h1
      cases h1
      exact wpSIn_cond hq (hS.dcode γ B H w y fr a r cs hcs hrd hR hG hT hD h)
    · rename_i hc
      have h1 := er_of_trel hG hT x _ hc
      generalize hq : a.eval x = vx at h1
      cases h1
      exact wpSIn_cond hq (hS.dcode γ B H w z fr a r cs hcs hrd hR hG hT hD h)
    · cases h
  | block id b =>
    rw [run] at h
    refine wpSIn_block ?_
    cases hx : run C P f (.dcode b fr) H with
    | none => rw [hx] at h; cases h
    | some r1 =>
      rw [hx] at h
      refine wpSIn_mono (hS.dcode γ B H w b fr a r1 cs hcs hrd hR hG hT hD hx) fun e a1 cs1 w1 hp => ?_
      obtain ⟨rfl, e1, fr1, H1, γ1, rfl, hex, hrd1, hR1, hx1, hT1, hD1, hb1⟩ := hp
      cases e1 with
      | normal =>
        cases h
        cases e with
        | normal => exact ⟨rfl, _, _, _, γ1, rfl, hex, hrd1, hR1, hx1, hT1, hD1, hb1⟩
        | _ => exact hex.elim
      | exit j =>
        cases e with
        | exit j' =>
          cases (show j = j' from hex)
          simp only at h
          cases hb : Nat.beq j id with
          | true =>
            rw [hb] at h
            cases h
            have := Nat.eq_of_beq_eq_true hb
            simp only [Exit.inBlock, this, if_true]
            exact ⟨trivial, _, _, _, γ1, rfl, trivial, hrd1, hR1, hx1, hT1, hD1, hb1⟩
          | false =>
            rw [hb] at h
            cases h
            have : j ≠ id := fun e => by rw [e, Nat.beq_refl] at hb; cases hb
            simp only [Exit.inBlock, this, if_false]
            exact ⟨trivial, _, _, _, γ1, rfl, rfl, hrd1, hR1, hx1, hT1, hD1, hb1⟩
        | _ => exact hex.elim
      | ret =>
        cases h
        cases e with
        | ret => exact ⟨rfl, _, _, _, γ1, rfl, hex, hrd1, hR1, hx1, hT1, hD1, hb1⟩
        | _ => exact hex.elim
  | region id ops draw =>
    cases draw with
    | true => rw [run] at h <;> first | exact dcode_plain hS hrd hR hG hT hD h | simp
    | false =>
      rw [run] at h
      cases hb : recovers ops.toList with
      | true =>
        rw [hb, cond_true] at h
        exact wpSIn_region (hS.sops γ B H w ops _ fr a r cs _ hcs hrd hR hG hT hD h fun e a' w' hp => ⟨rfl, hp⟩)
      | false =>
        rw [hb, cond_false] at h
        exact dcode_plain hS hrd hR hG hT hD h
  | _ => rw [run] at h <;> first | exact dcode_plain hS hrd hR hG hT hD h | simp

theorem VPost.of {γ γ1 : Gam} {B : Nat} {H H1 : AHeap} {w w1 : World} {v : Value} {H' : AHeap} (hx : Ext γ γ1 H H1) (hb : Below B w w1) {e : Ending} {w' : World} (h : VPost γ1 B H1 w1 v H' e w') : VPost γ B H w v H' e w' := by
  cases e with
  | returned v' =>
    obtain ⟨γ', h1, h2, h3, h4⟩ := h
    exact ⟨γ', h1, h2, hx.trans h3, hb.trans h4⟩
  | panicked => exact h.elim
  | outgrown => exact h.elim

theorem leavesInM_mono {F : Fence} {n : Nat} {fn : Func} {tmps : Array Value} {R R' : Ending → World → Prop} (hr : ∀ e w, R e w → R' e w) : ∀ {ds : List Deferred} {u : FrameMode} {w : World}, LeavesInM F n P fn tmps R ds u w → LeavesInM F n P fn tmps R' ds u w
  | [], .returning, w, h => let ⟨v, h1, h2⟩ := h; ⟨v, h1, hr _ _ h2⟩
  | [], .panicking chain, w, h => hr _ _ h
  | [], .run, _, h => h
  | d :: ds, u, w, h => by
    obtain ⟨hu, h⟩ := h
    refine ⟨hu, ?_⟩
    rcases h with ⟨r, w', h1, h2, h3⟩ | ⟨h1, fv, cap, f, args, h2, h3, h4, h5⟩
    · exact .inl ⟨r, w', h1, h2, leavesInM_mono hr h3⟩
    · refine .inr ⟨h1, fv, cap, f, args, h2, h3, h4, CallsDIn.mono h5 fun e u' w' he => ?_⟩
      cases e with
      | returned v => exact leavesInM_mono hr he
      | panicked chain => exact leavesInM_mono hr he
      | outgrown => exact hr _ _ he

theorem leave_step {f : Nat} (hC : C.Fits P) (hS : Sound C P f) : LeaveOk C P (f + 1) := by
  intro γ B H w ds fn T n tmps dl v H' hR hG hT hD h
  cases hD with
  | nil =>
    rw [run] at h
    obtain ⟨vs, hvs, hv⟩ : ∃ vs, resultsA C H T fn.results.toList = some vs ∧ v = resVal vs ∧ H' = H := by
      split at h
      · rename_i u hu; cases h; exact ⟨_, hu, rfl, rfl⟩
      · rename_i vs hne hu
        cases h
        refine ⟨_, hu, ?_, rfl⟩
        unfold resVal
        split
        · rename_i u; exact absurd rfl (hne u)
        · rfl
      · cases h
    obtain ⟨rfl, rfl⟩ := hv
    obtain ⟨v', h1, h2⟩ := results_sound hC hR hT hvs
    exact ⟨v', h1, γ, h2, hR, Ext.refl γ H', Below.refl B w⟩
  | @cons _ dd lds ldl hd hl =>
    cases hd with
    | @mark x g hx =>
      rw [run] at h
      split at h
      · rename_i ho
        have hobj := hR.obj x g _ hx ho
        obtain ⟨q1, q2, q3⟩ := hR.putObj (o' := .dead) (b' := .deferred none) hx ho rfl rfl trivial
        refine ⟨by simp, .inl ⟨g.b, _, rfl, run_takeDeferred hobj, ?_⟩⟩
        have := hS.leave γ B _ _ _ fn T n tmps _ v H' q1 hG hT hl h
        exact leavesInM_mono (fun e w' he => VPost.of q2 q3 he) this
      · cases h
    | @call g args _ cap htar ha =>
      rw [run] at h
      split at h
      · rename_i gn hgn
        have hP : P.funcs[g]? = some gn := by rw [← hC.x.func]; exact hgn
        split at h
        · rename_i c hb
          obtain ⟨t, as⟩ := dd
          simp only at htar ha
          subst htar
          have hinv : (invoke (.fn (.func g) cap) as).run P w = .ok (.enter g (as ++ cap)) w := by
            have hpl : ¬ gn.name = "runtime.NumGoroutine" := by simpa using hC.plain g gn hgn
            simp [invoke, callFunc, hP, hpl, hb]
          have key : ∀ (e0 : Ex) (Tg : PT Value) (ng : Nat) (rg : Option Nat) (H1 : AHeap) (vs : List Value), (e0 = .normal ∨ e0 = .ret) → run C P f (.dcode c ⟨enterT 0 args .nil, Nat.max args.length gn.ntmps, [], none⟩) H = some (.code e0 ⟨Tg, ng, [], rg⟩ H1) →
              resultsA C H1 Tg gn.results.toList = some vs → run C P f (.leave lds fn T) H1 = some (.val v H') → LeavesInM (fen none) 0 P fn tmps (VPost γ B H w v H') ({ target := .fn (.func g) cap, args := as } :: ldl) .returning w := fun e0 Tg ng rg H1 vs he0 hrun hres hrest => by
            refine ⟨by simp, .inr ⟨fen_deep, .func g, cap, g, as ++ cap, rfl, hinv, fun _ _ => trivial, ?_⟩⟩
            refine callsDIn_of_wpSIn hP hb trivial fun c0 cs hmode => ?_
            have hcs : recoverD (c0 :: cs) = none := by simp [recoverD, hmode]
            refine wpSIn_mono (hS.dcode γ B H w c _ _ _ (c0 :: cs) hcs rfl hR hG (TRel.enter ha) .nil hrun) fun e a1 cs1 w1 hp => ?_
            obtain ⟨rfl, e1, fr1, H1', γ1, heq, hex, hrd1, hR1, hx1, hT1, hD1, hb1⟩ := hp
            cases heq
            have hd0 : a1.defers = [] := by
              have hD1 : DsRel γ1 [] a1.defers := hD1
              generalize a1.defers = q at hD1 ⊢
              cases hD1
              rfl
            obtain ⟨u, h1, h2⟩ := results_sound hC hR1 hT1 hres
            have hc0 : ({ c0 with mode := .returning } : Frame) = c0 := by rw [← hmode]
            have hleave := hS.leave γ1 B H1 w1 _ fn T n tmps _ v H' hR1 (hG.mono hx1.le) (hT.mono hx1.le) (hl.mono hx1.le) hrest
            have hfin := leavesInM_mono (fun e w' he => VPost.of hx1 hb1 he) hleave
            rcases he0 with rfl | rfl
            · cases e with
              | normal => exact ⟨hd0, .returning, by rw [hc0], u, h1, hfin⟩
              | _ => exact hex.elim
            · cases e with
              | ret => exact ⟨hd0, .returning, by rw [hc0], u, h1, hfin⟩
              | _ => exact hex.elim
          split at h
          · rename_i Tg ng rg H1 hrun
            split at h
            · rename_i vs hres
              exact key .normal Tg ng rg H1 vs (.inl rfl) hrun hres h
            · cases h
          · rename_i Tg ng rg H1 hrun
            split at h
            · rename_i vs hres
              exact key .ret Tg ng rg H1 vs (.inr rfl) hrun hres h
            · cases h
          · cases h
        · cases h
      · cases h
end
end
end Go.AM

/- The abstract machine, part 30: a call, a round, code: all that is run is so. -/
namespace Go.AM
open Go Go.RowKit
noncomputable section

section
variable {C : Cy} {P : Program}

theorem call_step {f : Nat} (hC : C.Fits P) (hS : Sound C P f) : CallOk C P (f + 1) := by
  intro γ B H w g args args' v H' hR hG ha h
  rw [run] at h
  split at h
  · rename_i fn hfn
    have hP : P.funcs[g]? = some fn := by rw [← hC.x.func]; exact hfn
    split at h
    · rename_i c hb
      refine callsIn_of_wp_marks hP hb trivial ?_ rfl
      cases hx : run C P f (.code c ⟨enterT 0 args .nil, Nat.max args.length fn.ntmps, [], none⟩) H with
      | none => rw [hx] at h; cases h
      | some r1 =>
        rw [hx] at h
        refine wpIn_mono (hS.code γ B H w c ⟨enterT 0 args .nil, Nat.max args.length fn.ntmps, [], none⟩ _ r1 none hR hG (TRel.enter ha) .nil .none hx) fun e a1 w1 hp => ?_
        obtain ⟨e1, fr1, H1, γ1, rfl, hex, hrd1, hR1, hx1, hT1, hD1, hb1⟩ := hp
        cases e1 with
        | normal =>
          cases e with
          | normal => exact leavesInM_mono (fun e w' he => VPost.of hx1 hb1 he) (hS.leave γ1 B H1 w1 fr1.ds fn fr1.T fr1.n a1.tmps a1.defers v H' hR1 (hG.mono hx1.le) hT1 hD1 h)
          | _ => exact hex.elim
        | ret =>
          cases e with
          | ret => exact leavesInM_mono (fun e w' he => VPost.of hx1 hb1 he) (hS.leave γ1 B H1 w1 fr1.ds fn fr1.T fr1.n a1.tmps a1.defers v H' hR1 (hG.mono hx1.le) hT1 hD1 h)
          | _ => exact hex.elim
        | exit j => cases h
    · cases h
  · cases h

theorem round_step {f : Nat} (hS : Sound C P f) : RoundOk C P (f + 1) := by
  intro γ B H w x g args args' v H' hR hG hx ha h
  rw [run] at h
  split at h
  · rename_i pend0 tmps nt ps as bd0 d0 ho
    split at h
    · rename_i T hps
      obtain ⟨fn, tmps', g', hblk, hTr, _⟩ := hR.obj x g _ hx ho
      obtain ⟨hT0, hlen⟩ := setPs_rel hps ha hTr
      refine ⟨g.b, fn, _, as, bd0, run_yield hblk (by simpa using hlen), ?_⟩
      have hT0' : TRel γ T nt ((ps.zip args').foldl (fun (tmps : Array Value) (t, a) => tmps.setIfInBounds t a) tmps') := by
        have : (ps.zip args').foldl (fun (tmps : Array Value) (t, a) => tmps.setIfInBounds t a) tmps' = (ps.toList.zip args'.toList).foldl (fun (tmps : Array Value) (t, a) => tmps.setIfInBounds t a) tmps' := by
          rw [← Array.foldl_toList, Array.toList_zip]
        rw [this]
        exact hT0
      refine roundIn_of_wpIn trivial ?_
      show as.wpIn (fen (some g.b)) 0 P _ _ w
      cases hxa : run C P f (.code as ⟨T, nt, [], some x⟩) H with
      | none => rw [hxa] at h; cases h
      | some r1 =>
        rw [hxa] at h
        refine wpIn_mono (hS.code γ B H w as ⟨T, nt, [], some x⟩ _ r1 (some g.b) hR hG hT0' .nil (.some hx) hxa) fun e a1 w1 hp => ?_
        obtain ⟨e1, fr1, H1, γ1, rfl, hex, hrd1, hR1, hx1, hT1, hD1, hb1⟩ := hp
        cases e1 with
        | exit j => cases h
        | ret => cases h
        | normal =>
          cases e with
          | normal =>
            simp only at h
            split at h
            · rename_i pend1 tmps1 nt1 ps1 as1 bd1 d1 ho1
              have hxx := hx1.le _ _ hx
              obtain ⟨fn1, tmps1', g1', hblk1, hTr1, hd1⟩ := hR1.obj x g _ hxx ho1
              have hbusy := hR1.putObj (o' := .loop .busy pend1 tmps1 nt1 ps1 as1 bd1 d1) (b' := .loop { state := .busy, pending := pend1, fn := fn1, tmps := tmps1', params := ps1, assign := as1, body := bd1, defers := g1'.b }) hxx ho1 rfl rfl ⟨fn1, tmps1', g1', rfl, hTr1, hd1⟩
              obtain ⟨hR2, hx2, hb2⟩ := hbusy
              refine ⟨_, run_beginRound hblk1 rfl, ?_⟩
              show bd0.wpIn (fen (some g.b)) 0 P _ _ _
              cases hxb : run C P f (.code bd0 fr1) (H1.put x (.loop .busy pend1 tmps1 nt1 ps1 as1 bd1 d1)) with
              | none => rw [hxb] at h; cases h
              | some r2 =>
                rw [hxb] at h
                refine wpIn_mono (hS.code γ1 B _ _ bd0 fr1 a1 r2 (some g.b) hR2 (hG.mono hx1.le) hT1 hD1 (by rw [hrd1]; exact .some hxx) hxb) fun e a2 w2 hp => ?_
                obtain ⟨e2, fr2, H2, γ2, rfl, hex2, hrd2, hR3, hx3, hT3, hD3, hb3⟩ := hp
                simp only at h
                split at h
                · rename_i st2 pend2 tmps2 nt2 ps2 as2 bd2 d2 ho2
                  have hxx2 := hx3.le _ _ hxx
                  obtain ⟨fn2, tmps2', g2', hblk2, hTr2, hd2⟩ := hR3.obj x g _ hxx2 ho2
                  have fin : ∀ (st : LoopState) (jump : Option Code) (b : Bool), v = .bool b → H' = H2.put x (.loop st jump tmps2 nt2 ps2 as2 bd2 d2) → jump.isNone = b → (if jump.isNone then LoopState.ready else LoopState.done) = st →
                      ∃ v' w', (Instr.endRound g.b jump).run P w2 = .ok v' w' ∧ VPost γ B H w v H' (.returned v') w' := fun st jump b hv hH' hj hst => by
                    obtain ⟨q1, q2, q3⟩ := hR3.putObj (o' := .loop st jump tmps2 nt2 ps2 as2 bd2 d2) (b' := .loop { state := if jump.isNone then .ready else .done, pending := jump, fn := fn2, tmps := tmps2', params := ps2, assign := as2, body := bd2, defers := g2'.b }) hxx2 ho2 rfl rfl
                      ⟨fn2, tmps2', g2', by rw [hst], hTr2, hd2⟩
                    refine ⟨_, _, run_endRound jump hblk2, γ2, by rw [hv, hj]; exact .bool b, by rw [hH']; exact q1, ?_, ?_⟩
                    · rw [hH']; exact ((hx1.trans hx2).trans hx3).trans q2
                    · exact ((hb1.trans hb2).trans hb3).trans q3
                  cases e2 with
                  | normal =>
                    cases e with
                    | normal => cases h; exact fin .ready none true rfl rfl rfl rfl
                    | _ => exact hex2.elim
                  | ret =>
                    cases e with
                    | ret => cases h; exact fin .done (some .ret) false rfl rfl rfl rfl
                    | _ => exact hex2.elim
                  | exit j =>
                    cases e with
                    | exit j' =>
                      cases (show j = j' from hex2)
                      cases h
                      exact fin .done (some (.exit j)) false rfl rfl rfl rfl
                    | _ => exact hex2.elim
                · cases h
            · cases h
          | _ => exact hex.elim
    · cases h
  · cases h
end
end
end Go.AM

/- The abstract machine, part 31: code, a range over a function in it; the machine is sound. -/
namespace Go.AM
open Go Go.RowKit
noncomputable section

theorem DsRel.app {γ : Gam} {l1 l2 : List Dfr} {l1' l2' : List Deferred} (h : DsRel γ l1 l1') (k : DsRel γ l2 l2') : DsRel γ (l1 ++ l2) (l1' ++ l2') := by
  induction h with
  | nil => exact k
  | cons h _ ih => exact .cons h ih

section
variable {C : Cy} {P : Program}

def loopDl (H : AHeap) (rd : Option Nat) : Option (Nat × List Dfr × AHeap) := match rd with
  | none => some (H.next, [Dfr.mark H.next], H.put H.next .defd)
  | some x => (match H.get x with
    | some (.loop _ _ _ _ _ _ _ d) => some (d, [], H)
    | _ => none)

theorem enter_sound {γ : Gam} {B : Nat} {H : AHeap} {w : World} {fr : Fr} {a : Act} {ro : Option Nat} {ps : Array Tmp} {assign body : Code} (hR : Rel γ B H w) (hT : TRel γ fr.T fr.n a.tmps) (hrd : RdRel γ fr.rd ro)
    {d : Nat} {mk : List Dfr} {H1 : AHeap} (h : loopDl H fr.rd = some (d, mk, H1)) (fn : FuncId) :
    ∃ (l : Nat) (mark : List Deferred) (w1 : World) (γ1 : Gam), (Instr.enterLoop fn a.tmps ps assign body ro).run P w = .ok (l, mark) w1 ∧ γ1 H1.next = some ⟨l, 0, 0⟩ ∧
      Rel γ1 B (H1.put H1.next (.loop .ready none fr.T fr.n ps assign body d)) w1 ∧ DsRel γ1 mk mark ∧ Ext γ γ1 H (H1.put H1.next (.loop .ready none fr.T fr.n ps assign body d)) ∧ Below B w w1 := by
  unfold loopDl at h
  generalize fr.rd = rd at hrd h
  cases hrd with
  | none =>
    have hn : γ H.next = none := hR.fresh (Nat.le_refl _)
    cases h
    have r1 := hR.alloc hn (.deferred (some [])) 0 (o := .defd) rfl
    have e1 : Ext γ (γ.put H.next ⟨w.heap.size, 0, 0⟩) H (H.put H.next .defd) := Ext.alloc hn _ _ fun y hy _ => by omega
    have hn2 : (γ.put H.next ⟨w.heap.size, 0, 0⟩) (H.put H.next .defd).next = none := r1.fresh (Nat.le_refl _)
    have hd : (γ.put H.next ⟨w.heap.size, 0, 0⟩) H.next = some ⟨w.heap.size, 0, 0⟩ := Gam.put_same _ _ _
    have hle2 := Gam.le_put (g := ⟨(w.alloc (.deferred (some []))).heap.size, 0, 0⟩) hn2
    have r2 := r1.alloc hn2 (.loop { state := .ready, pending := none, fn := fn, tmps := a.tmps, params := ps, assign := assign, body := body, defers := w.heap.size }) 0 (o := .loop .ready none fr.T fr.n ps assign body H.next)
      ⟨fn, a.tmps, ⟨w.heap.size, 0, 0⟩, rfl, (hT.mono e1.le).mono hle2, hle2 _ _ hd⟩
    refine ⟨_, _, _, _, run_enterLoop_outer fn a.tmps ps assign body, ?_, r2, .cons (.mark (hle2 _ _ hd)) .nil, e1.trans (Ext.alloc hn2 _ _ fun y hy _ => by omega), ?_⟩
    · rw [Gam.put_same]
      have : (w.alloc (.deferred (some []))).heap.size = w.heap.size + 1 := World.size_alloc ..
      rw [this]
    · exact ((Below.refl B w).alloc hR.base _).alloc (by have := r1.base; exact this) _
  | @some x g hx =>
    simp only at h
    split at h
    · rename_i st pend tm nt ps0 as0 bd0 d0 ho
      cases h
      obtain ⟨fn0, tmps0, g0, hblk, _, hd0⟩ := hR.obj x g _ hx ho
      have hn : γ H.next = none := hR.fresh (Nat.le_refl _)
      have hle := Gam.le_put (g := ⟨w.heap.size, 0, 0⟩) hn
      have r1 := hR.alloc hn (.loop { state := .ready, pending := none, fn := fn, tmps := a.tmps, params := ps, assign := assign, body := body, defers := g0.b }) 0 (o := .loop .ready none fr.T fr.n ps assign body d)
        ⟨fn, a.tmps, g0, rfl, hT.mono hle, hle _ _ hd0⟩
      refine ⟨w.heap.size, [], _, _, ?_, Gam.put_same _ _ _, r1, .nil, Ext.alloc hn _ _ fun y hy _ => by omega, (Below.refl B w).alloc hR.base _⟩
      unfold Instr.enterLoop
      simp only [Sem.run_bind, run_getLoop hblk, run_newObj_alloc, Result.andThen, Sem.run_pure]
    · cases h

theorem ofValue_func {γ : Gam} {H : AHeap} {nid : Nat} {fv fv' : Value} {args : List Value} {out : Out} (hf : VRel γ fv fv') (h : acallV C P H nid fv args = some out) : ∃ fn a c, fv' = .func fn a c := by
  unfold acallV at h
  split at h
  · cases hf with
    | func => exact ⟨_, _, _, rfl⟩
  · cases hf with
    | func => exact ⟨_, _, _, rfl⟩
  · cases hf with
    | func => exact ⟨_, _, _, rfl⟩
  · cases h

theorem range_step {f : Nat} (hC : C.Fits P) (hS : Sound C P f) {γ : Gam} {B : Nat} {H : AHeap} {w : World} {g : Operand} {ps : Array Tmp} {assign body : Code} {fr : Fr} {a : Act} {r : Res} {ro : Option Nat}
    (hR : Rel γ B H w) (hG : C.GlobOk γ) (hT : TRel γ fr.T fr.n a.tmps) (hD : DsRel γ fr.ds a.defers) (hrd : RdRel γ fr.rd ro) (h : run C P (f + 1) (.code (.rangeFunc g ps assign body) fr) H = some r) :
    (Code.rangeFunc g ps assign body).wpIn (fen ro) 0 P (CPost γ B H w fr.rd r) a w := by
  rw [run] at h
  change (match loopDl H fr.rd, aeval C fr.T g with
        | some (d, mk, H), some gv => _
        | _, _ => none) = some r at h
  split at h
  · rename_i d mk H1 gv hdl hgv
    simp only at h
    split at h
    · rename_i gf args hcv
      refine wpIn_rangeFunc fun fn _ => ?_
      obtain ⟨l, mark, w1, γ1, q1, q2, q3, q4, q5, q6⟩ := enter_sound (P := P) (a := a) (ps := ps) (assign := assign) (body := body) hR hT hrd hdl fn
      have hfv : VRel γ1 gv (a.eval g) := (er_of_trel hG hT g gv hgv).mono q5.le
      obtain ⟨fn', fa, fc, hfeq⟩ := ofValue_func hfv hcv
      have hya : VsRel γ1 [.func (.yield H1.next) ⟨[]⟩ ⟨[]⟩] (#[.func (.yield l) #[] #[]] : Array Value).toList := .cons (.func (.yield (g := ⟨l, 0, 0⟩) q2) .nil .nil) .nil
      obtain ⟨args', hinv, hargs⟩ := acallV_sound (P := P) hC q3 (q3.fresh (Nat.le_refl _)) hfv hya hcv
      rw [hfeq] at hinv
      have hinv' : (invoke (.fn fn' fc) (fa ++ #[.func (.yield l) #[] #[]])).run P w1 = .ok (.enter gf args') w1 := by
        simpa [Deferred.ofValue] using hinv
      refine ⟨l, mark, w1, { target := .fn fn' fc, args := fa ++ #[.func (.yield l) #[] #[]] }, w1, gf, args', w1, q1, ?_, fun _ _ => trivial, hinv', fen_deep, ?_⟩
      · simp only [resolve, hfeq, Deferred.ofValue]
        simp [Act.eval]
      · split at h
        · rename_i v3 H3 hcall
          refine CallsIn.mono (F := fen ro) (hS.call γ1 B _ w1 gf args args' v3 H3 q3 (hG.mono q5.le) hargs hcall) fun e w3 he => ?_
          cases e with
          | panicked => exact he.elim
          | outgrown => exact he.elim
          | returned v' =>
            obtain ⟨γ3, _, hR3, hx3, hb3⟩ := he
            split at h
            · rename_i st pend tmps3 nt3 ps3 as3 bd3 d3 ho
              have hl := hx3.le _ _ q2
              obtain ⟨fn3, tmps3', g3, hblk, hTr, hd3⟩ := hR3.obj _ _ _ hl ho
              obtain ⟨hR4, hx4, hb4⟩ := hR3.putObj (o' := .loop .exhausted pend tmps3 nt3 ps3 as3 bd3 d3) (b' := .loop { state := .exhausted, pending := pend, fn := fn3, tmps := tmps3', params := ps3, assign := as3, body := bd3, defers := g3.b }) hl ho rfl rfl
                ⟨fn3, tmps3', g3, rfl, hTr, hd3⟩
              have hle : γ.le γ3 := q5.le.trans hx3.le
              have hxx := (q5.trans hx3).trans hx4
              have hbb := (q6.trans hb3).trans hb4
              have hDD : DsRel γ3 (mk ++ fr.ds) (mark ++ a.defers) := (q4.mono hx3.le).app (hD.mono hle)
              have hst : st ≠ .busy := by
                intro e
                rw [e] at h
                cases h
              refine ⟨pend, _, run_endLoop hblk hst, ?_⟩
              cases pend with
              | none =>
                have hh : some (Res.code Ex.normal { fr with ds := mk ++ fr.ds } (H3.put H1.next (.loop .exhausted none tmps3 nt3 ps3 as3 bd3 d3))) = some r := by
                  cases st <;> first | exact absurd rfl hst | exact h
                cases hh
                exact ⟨.normal, _, _, γ3, rfl, trivial, rfl, hR4, hxx, hT.mono hle, hDD, hbb⟩
              | some c =>
                have hh : run C P f (.code c { fr with ds := mk ++ fr.ds }) (H3.put H1.next (.loop .exhausted (some c) tmps3 nt3 ps3 as3 bd3 d3)) = some r := by
                  cases st <;> first | exact absurd rfl hst | exact h
                exact wpIn_mono (hS.code γ3 B _ _ c { fr with ds := mk ++ fr.ds } _ r ro hR4 (hG.mono hle) (hT.mono hle) hDD (hrd.mono hle) hh) fun e a' w' hp => hp.of hxx hbb
            · cases h
        · cases h
    · cases h
  · cases h

theorem code_step {f : Nat} (hC : C.Fits P) (hSS : ∀ f0, f0 < f + 1 → Sound C P f0) : CodeOk C P (f + 1) := by
  have hS := hSS f (Nat.lt_succ_self f)
  intro γ B H w c fr a r ro hR hG hT hD hrd h
  cases c with
  | skip => rw [run] at h; cases h; exact wpIn_skip (CPost.here hR hT hD trivial)
  | label l => rw [run] at h; cases h; exact wpIn_label (CPost.here hR hT hD trivial)
  | exit id => rw [run] at h; cases h; exact wpIn_exit (CPost.here hR hT hD rfl)
  | ret => rw [run] at h; cases h; exact wpIn_ret (CPost.here hR hT hD trivial)
  | seq x y =>
    rw [run] at h
    refine wpIn_seq ?_
    cases hx : run C P f (.code x fr) H with
    | none => rw [hx] at h; cases h
    | some r1 =>
      rw [hx] at h
      refine wpIn_mono (hS.code γ B H w x fr a r1 ro hR hG hT hD hrd hx) fun e a1 w1 hp => ?_
      obtain ⟨e1, fr1, H1, γ1, rfl, hex, hrd1, hR1, hx1, hT1, hD1, hb1⟩ := hp
      cases e1 with
      | normal =>
        cases e with
        | normal =>
          have := hS.code γ1 B H1 w1 y fr1 a1 r ro hR1 (hG.mono hx1.le) hT1 hD1 (by rw [hrd1]; exact hrd.mono hx1.le) h
          rw [hrd1] at this
          exact wpIn_mono this fun e a' w' hp => hp.of hx1 hb1
        | _ => exact hex.elim
      | exit j =>
        cases h
        cases e with
        | exit id => exact ⟨_, _, _, γ1, rfl, hex, hrd1, hR1, hx1, hT1, hD1, hb1⟩
        | _ => exact hex.elim
      | ret =>
        cases h
        cases e with
        | ret => exact ⟨_, _, _, γ1, rfl, hex, hrd1, hR1, hx1, hT1, hD1, hb1⟩
        | _ => exact hex.elim
  | cond x y z =>
    rw [run] at h
    split at h
    · rename_i hc
      have h1 := er_of_trel hG hT x _ hc
      generalize hq : a.eval x = vx at h1
      cases h1
      exact wpIn_cond_true hq (hS.code γ B H w y fr a r ro hR hG hT hD hrd h)
    · rename_i hc
      have h1 := er_of_trel hG hT x _ hc
      generalize hq : a.eval x = vx at h1
      cases h1
      exact wpIn_cond_false hq (hS.code γ B H w z fr a r ro hR hG hT hD hrd h)
    · cases h
  | block id b =>
    rw [run] at h
    refine wpIn_block ?_
    cases hx : run C P f (.code b fr) H with
    | none => rw [hx] at h; cases h
    | some r1 =>
      rw [hx] at h
      refine wpIn_mono (hS.code γ B H w b fr a r1 ro hR hG hT hD hrd hx) fun e a1 w1 hp => ?_
      obtain ⟨e1, fr1, H1, γ1, rfl, hex, hrd1, hR1, hx1, hT1, hD1, hb1⟩ := hp
      cases e1 with
      | normal =>
        cases h
        cases e with
        | normal => exact ⟨_, _, _, γ1, rfl, hex, hrd1, hR1, hx1, hT1, hD1, hb1⟩
        | _ => exact hex.elim
      | exit j =>
        cases e with
        | exit j' =>
          cases (show j = j' from hex)
          simp only at h
          cases hb : Nat.beq j id with
          | true =>
            rw [hb] at h
            cases h
            have := Nat.eq_of_beq_eq_true hb
            simp only [Exit.inBlock, this, if_true]
            exact ⟨_, _, _, γ1, rfl, trivial, hrd1, hR1, hx1, hT1, hD1, hb1⟩
          | false =>
            rw [hb] at h
            cases h
            have : j ≠ id := fun e => by rw [e, Nat.beq_refl] at hb; cases hb
            simp only [Exit.inBlock, this, if_false]
            exact ⟨_, _, _, γ1, rfl, rfl, hrd1, hR1, hx1, hT1, hD1, hb1⟩
        | _ => exact hex.elim
      | ret =>
        cases h
        cases e with
        | ret => exact ⟨_, _, _, γ1, rfl, hex, hrd1, hR1, hx1, hT1, hD1, hb1⟩
        | _ => exact hex.elim
  | loop b =>
    refine wpIn_loop_ind (fun j a1 w1 => j ≤ f + 1 ∧ ∃ fr1 H1 γ1, run C P j (.code (.loop b) fr1) H1 = some r ∧ fr1.rd = fr.rd ∧ Rel γ1 B H1 w1 ∧ Ext γ γ1 H H1 ∧ TRel γ1 fr1.T fr1.n a1.tmps ∧ DsRel γ1 fr1.ds a1.defers ∧ Below B w w1) ?_
      (j := f + 1) ⟨Nat.le_refl _, fr, H, γ, h, rfl, hR, Ext.refl γ H, hT, hD, Below.refl B w⟩
    intro j a0 w0 hj
    obtain ⟨hjf, fr0, H0, γ0, h0, hrd0, hR0, hx0, hT0, hD0, hb0⟩ := hj
    cases j with
    | zero => simp [run] at h0
    | succ j =>
      rw [run] at h0
      have hSj := hSS j (by omega)
      cases hx : run C P j (.code b fr0) H0 with
      | none => rw [hx] at h0; cases h0
      | some r1 =>
        rw [hx] at h0
        refine wpIn_mono (hSj.code γ0 B H0 w0 b fr0 a0 r1 ro hR0 (hG.mono hx0.le) hT0 hD0 (by rw [hrd0]; exact hrd.mono hx0.le) hx) fun e a1 w1 hp => ?_
        obtain ⟨e1, fr1, H1, γ1, rfl, hex, hrd1, hR1, hx1, hT1, hD1, hb1⟩ := hp
        cases e1 with
        | normal =>
          cases e with
          | normal => exact ⟨j, Nat.lt_succ_self j, by omega, fr1, H1, γ1, h0, hrd1.trans hrd0, hR1, hx0.trans hx1, hT1, hD1, hb0.trans hb1⟩
          | _ => exact hex.elim
        | exit i =>
          cases h0
          cases e with
          | exit id => exact ⟨_, _, _, γ1, rfl, hex, hrd1.trans hrd0, hR1, hx0.trans hx1, hT1, hD1, hb0.trans hb1⟩
          | _ => exact hex.elim
        | ret =>
          cases h0
          cases e with
          | ret => exact ⟨_, _, _, γ1, rfl, hex, hrd1.trans hrd0, hR1, hx0.trans hx1, hT1, hD1, hb0.trans hb1⟩
          | _ => exact hex.elim
  | region id ops draw =>
    rw [run] at h
    cases draw with
    | true =>
      simp only [cond_true] at h
      rw [rebuild_eq] at h
      obtain ⟨hreg, h⟩ := bif_some h
      exact draw_sound (fm := f + 1) hC (fun f0 hf0 => ⟨(hSS f0 hf0).call, (hSS f0 hf0).round⟩) (by omega) hreg hR hG hT hD h
    | false =>
      simp only [cond_false] at h
      exact wpIn_region (hS.ops γ B H w ops _ fr a r ro _ hR hG hT hD hrd h fun _ _ _ hp => hp)
  | rangeFunc g ps assign body => exact range_step hC hS hR hG hT hD hrd h
  | scope b => rw [run] at h <;> first | (cases h; done) | simp
  | goto l => rw [run] at h <;> first | (cases h; done) | simp
  | refuse y => rw [run] at h <;> first | (cases h; done) | simp

/-- **The machine is sound**: what it runs to an end is so in every world that it stands for. -/
theorem sound (hC : C.Fits P) : ∀ f, Sound C P f := by
  intro f
  induction f using Nat.strongRecOn with
  | _ f ih =>
    cases f with
    | zero =>
      refine ⟨?_, ?_, ?_, ?_, ?_, ?_, ?_⟩
      · intro γ B H w c fr a r ro _ _ _ _ _ h; simp [run] at h
      · intro γ B H w ops l fr a r ro Q _ _ _ _ _ h; simp [run] at h
      · intro γ B H w g args args' v H' _ _ _ h; simp [run] at h
      · intro γ B H w ds fn T n tmps dl v H' _ _ _ _ h; simp [run] at h
      · intro γ B H w x g args args' v H' _ _ _ _ h; simp [run] at h
      · intro γ B H w c fr a r cs _ _ _ _ _ _ h; simp [run] at h
      · intro γ B H w ops l fr a r cs Q _ _ _ _ _ _ h; simp [run] at h
    | succ f =>
      have hS := ih f (Nat.lt_succ_self f)
      exact ⟨code_step hC ih, ops_step hC hS, call_step hC hS, leave_step hC hS, round_step hS, dcode_step hS, sops_step hC hS⟩
end
end
end Go.AM
