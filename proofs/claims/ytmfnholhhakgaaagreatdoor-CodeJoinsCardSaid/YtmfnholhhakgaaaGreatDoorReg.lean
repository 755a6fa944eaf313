/- A region that draws its order, by what each operation leaves: each operation is walked once, in any world that the others may have left. Its last operation waits for all others. -/
import Derived.Orders
import Derived.Below
import Derived.Lib.Hide
namespace Go.Proofs.YtmfnholhhakgaaaGreatDoor
open Go Go.Proofs Go.RowKit

/-- What operation i has left in its slot. -/
def slotOf (ops : Array Oper) (i : Nat) (a : Act) : Value := match (ops[i]?).bind (·.dst) with
  | some d => a.tmps.getD d undef
  | none => undef
/-- Outside the region's slots a is as a0. -/
def SameOut (ops : Array Oper) (a0 a : Act) : Prop := a.defers = a0.defers ∧ a.tmps.size = a0.tmps.size ∧ ∀ k, (∀ o ∈ ops, o.dst ≠ some k) → a.tmps.getD k undef = a0.tmps.getD k undef
def unl (n : Nat) (listed : Array Bool) : Nat := (List.range n).countP fun i => !listed.getD i true

theorem getD_both {listed : Array Bool} {i : Nat} (h : i < listed.size) : listed.getD i true = listed.getD i false := by simp [h]

theorem unl_set {n i : Nat} {listed : Array Bool} (hn : listed.size = n) (hi : i < n) (h0 : listed.getD i true = false) : unl n (listed.setIfInBounds i true) < unl n listed := by
  unfold unl
  have hmem : i ∈ List.range n := List.mem_range.2 hi
  have hnd : (List.range n).Nodup := List.nodup_range
  generalize List.range n = l at *
  induction l with
  | nil => cases hmem
  | cons x l ih =>
    rw [List.nodup_cons] at hnd
    rw [List.countP_cons, List.countP_cons]
    by_cases hx : x = i
    · subst hx
      have e1 : (listed.setIfInBounds x true).getD x true = true := by simp [hn ▸ hi]
      have e2 : l.countP (fun i => !(listed.setIfInBounds x true).getD i true) = l.countP (fun i => !listed.getD i true) := by
        apply List.countP_congr
        intro y hy
        have : x ≠ y := fun e => hnd.1 (e ▸ hy)
        rw [getD_set_ne true this]
      rw [e1, e2, h0]
      simp
    · have hm : i ∈ l := by
        rcases List.mem_cons.1 hmem with h | h
        · exact absurd h.symm hx
        · exact h
      have := ih hm hnd.2
      rw [getD_set_ne true (Ne.symm hx)]
      omega

theorem put_getD_ne {a : Act} {dst : Option Tmp} {v : Value} {k : Nat} (h : dst ≠ some k) : (a.put dst v).tmps.getD k undef = a.tmps.getD k undef := by
  cases dst with
  | none => rfl
  | some d =>
    have hd : d ≠ k := fun e => h (by rw [e])
    simp [Act.put, Array.getElem?_setIfInBounds_ne hd]
theorem put_getD_eq {a : Act} {d : Nat} {v : Value} (h : d < a.tmps.size) : (a.put (some d) v).tmps.getD d undef = v := by
  simp [Act.put, h]
theorem put_size (a : Act) (dst : Option Tmp) (v : Value) : (a.put dst v).tmps.size = a.tmps.size := by cases dst <;> simp [Act.put]
theorem put_defers (a : Act) (dst : Option Tmp) (v : Value) : (a.put dst v).defers = a.defers := by cases dst <;> rfl

section
variable {P : Program} {ops : Array Oper} {Q : Exit → Act → World → Prop}

/-- What the region's numbers must fulfil: no guards; each slot is one operation's; an operation waits for earlier ones only; the last one waits for all. -/
structure RegOk (ops : Array Oper) (a0 : Act) : Prop where
  pos : 0 < ops.size
  guard : ∀ o ∈ ops, o.guard = none
  dst : ∀ (i j : Nat) (oi oj : Oper) (d : Tmp), ops[i]? = some oi → ops[j]? = some oj → oi.dst = some d → oj.dst = some d → i = j
  room : ∀ o ∈ ops, ∀ d, o.dst = some d → d < a0.tmps.size
  back : ∀ (i : Nat) (o : Oper), ops[i]? = some o → ∀ e ∈ o.after, e.on < i
  last : ∀ o, ops[ops.size - 1]? = some o → ∀ j, j + 1 < ops.size → ∃ e ∈ o.after, Region.binds .any e = true ∧ e.on = j

theorem wp_region_inv (hm : P.follows .mixedOrders = true) {id : Nat} {a0 : Act} {w0 : World} (hok : RegOk ops a0) (G : Array Bool → World → Prop) (R : Nat → World → World → Prop) (Pred : Nat → Value → World → Prop)
    (hG : G (Array.replicate ops.size false) w0.drew)
    (hstab : ∀ i j v w w', i ≠ j → Pred i v w → R j w w' → Pred i v w')
    (hstep : ∀ i o a w, ops[i]? = some o → i + 1 < ops.size → ∀ listed, listed.size = ops.size → listed.getD i false = false → G listed w → (∀ e ∈ o.after, Region.binds .any e = true → Pred e.on (slotOf ops e.on a) w) → SameOut ops a0 a →
      o.wp P a w (fun a' w' => ∃ v, a' = a.put o.dst v ∧ G (listed.setIfInBounds i true) w' ∧ R i w w' ∧ (o.dst = none → v = undef) ∧ Pred i v w') Q)
    (hlast : ∀ o a w, ops[ops.size - 1]? = some o → ∀ listed, G listed w → (∀ j, j + 1 < ops.size → Pred j (slotOf ops j a) w) → SameOut ops a0 a → o.wp P a w (fun a' w' => Q .normal a' w') Q) :
    (Code.region id ops true).wp P Q a0 w0 := by
  refine wp_region_any hm ?_
  have key : ∀ fuel listed a w, unl ops.size listed ≤ fuel → listed.size = ops.size → listed.getD (ops.size - 1) true = false → G listed w → SameOut ops a0 a →
      (∀ i, listed.getD i false = true → Pred i (slotOf ops i a) w) → wpAny P .any ops Q fuel listed a w := by
    have hp := hok.pos
    intro fuel
    induction fuel with
    | zero =>
      intro listed a w hu hs hl _ _ _
      exfalso
      unfold unl at hu
      have := List.countP_eq_zero.1 (Nat.le_zero.1 hu) (ops.size - 1) (List.mem_range.2 (by omega))
      rw [hl] at this
      simp at this
    | succ fuel ih =>
      intro listed a w hu hs hl hg hso hpr
      refine ⟨fun hr => ?_, fun i hi => ?_⟩
      · exfalso
        -- the least operation that is not listed is ready
        have hex : ∃ m, listed.getD m true = false := ⟨_, hl⟩
        obtain ⟨m, hm0, hmin⟩ : ∃ m, listed.getD m true = false ∧ ∀ k, k < m → ¬ listed.getD k true = false := by
          have hw : ∀ n, (∃ m, m ≤ n ∧ listed.getD m true = false) → ∃ m, listed.getD m true = false ∧ ∀ k, k < m → ¬ listed.getD k true = false := by
            intro n
            induction n with
            | zero =>
              rintro ⟨m, hm, h⟩
              exact ⟨m, h, fun k hk => by omega⟩
            | succ n ihn =>
              rintro ⟨m, hm, h⟩
              by_cases hx : ∃ q, q ≤ n ∧ listed.getD q true = false
              · exact ihn hx
              · refine ⟨m, h, fun k hk hf => hx ⟨k, by omega, hf⟩⟩
          exact hw _ ⟨_, Nat.le_refl _, hl⟩
        have hml : m < ops.size := by
          rcases Nat.lt_or_ge m ops.size with h | h
          · exact h
          · exact absurd hl (hmin _ (by omega))
        have hmem : m ∈ Region.ready .any ops listed := by
          refine mem_ready.2 ⟨hm0, ops[m], by simp [hml], fun e he _ => ?_⟩
          have hlt := hok.back m _ (by simp [hml]) e he
          have := hmin _ hlt
          rw [← getD_both (by omega)]
          simpa using this
        rw [hr] at hmem
        cases hmem
      · obtain ⟨h0, o, ho, hdeps⟩ := mem_ready.1 hi
        have hin : i < ops.size := (Array.getElem?_eq_some_iff.1 ho).1
        have hom : o ∈ ops := Array.mem_of_getElem? ho
        have hw : Region.wanted o (yielded ops a.tmps) = true := by simp [Region.wanted, hok.guard o hom]
        unfold wpOp
        rw [ho]
        simp only [hw, if_true]
        left
        by_cases hil : i = ops.size - 1
        · subst hil
          have hall : ∀ j, j + 1 < ops.size → listed.getD j false = true := by
            intro j hj
            obtain ⟨e, he, hb, rfl⟩ := hok.last o ho j hj
            exact hdeps e he hb
          refine Oper.wp_mono ?_ (hlast o a w ho listed hg (fun j hj => hpr j (hall j hj)) hso)
          intro a' w' hq
          have hr : Region.ready .any ops (listed.setIfInBounds (ops.size - 1) true) = [] := by
            rw [List.eq_nil_iff_forall_not_mem]
            intro j hj
            obtain ⟨hj0, oj, hoj, _⟩ := mem_ready.1 hj
            have hjn : j < ops.size := (Array.getElem?_eq_some_iff.1 hoj).1
            by_cases hje : j = ops.size - 1
            · subst hje
              have e1 : (listed.setIfInBounds (ops.size - 1) true).getD (ops.size - 1) true = true := by simp [show ops.size - 1 < listed.size by omega]
              rw [e1] at hj0
              cases hj0
            · rw [getD_set_ne true (Ne.symm hje), getD_both (by omega), hall j (by omega)] at hj0
              cases hj0
          cases fuel with
          | zero => exact ⟨hr, hq⟩
          | succ fuel => exact ⟨fun _ => hq, fun j hj => by rw [hr] at hj; cases hj⟩
        · refine Oper.wp_mono ?_ (hstep i o a w ho (by omega) listed hs (by rw [← getD_both (by omega)]; exact h0) hg (fun e he hb => hpr _ (hdeps e he hb)) hso)
          rintro a' w' ⟨v, rfl, hg', hR, hv, hpi⟩
          refine ih _ _ _ ?_ (by simpa using hs) ?_ hg' ⟨(put_defers _ _ _).trans hso.1, (put_size _ _ _).trans hso.2.1, fun k hk => ?_⟩ ?_
          · have := unl_set hs hin h0
            omega
          · rw [getD_set_ne true hil]
            exact hl
          · rw [put_getD_ne (hk o hom)]
            exact hso.2.2 k hk
          · intro j hj
            by_cases hij : i = j
            · subst hij
              have : slotOf ops i (a.put o.dst v) = v := by
                unfold slotOf
                rw [ho, Option.bind_some]
                cases hd : o.dst with
                | none => exact (hv hd).symm
                | some d => exact put_getD_eq (by rw [hso.2.1]; exact hok.room o hom d hd)
              rw [this]
              exact hpi
            · rw [getD_set_ne false hij] at hj
              have hjp := hstab _ _ _ _ _ (Ne.symm hij) (hpr j hj) hR
              have : slotOf ops j (a.put o.dst v) = slotOf ops j a := by
                unfold slotOf
                cases hoj : ops[j]? with
                | none => rfl
                | some oj =>
                  rw [Option.bind_some]
                  cases hd : oj.dst with
                  | none => rfl
                  | some d => exact put_getD_ne fun e => hij (hok.dst i j o oj d ho hoj e hd)
              rw [this]
              exact hjp
  refine key _ _ _ _ ?_ (by simp) ?_ hG ⟨rfl, rfl, fun _ _ => rfl⟩ ?_
  · unfold unl
    exact Nat.le_trans List.countP_le_length (by simp)
  · have := hok.pos
    simp [show ops.size - 1 < ops.size by omega]
  · intro i hi
    by_cases hin : i < ops.size <;> simp [hin] at hi

/-- The same, reckoned. -/
def regOkB (ops : Array Oper) (n : Nat) : Bool :=
  decide (0 < ops.size) && (List.range ops.size).all (fun i => match ops[i]? with
    | none => true
    | some o => o.guard.isNone && (match o.dst with
        | none => true
        | some d => decide (d < n) && (List.range ops.size).all fun j => j == i || (match ops[j]? with
            | none => true
            | some p => p.dst != some d)) && o.after.all (fun e => decide (e.on < i)) &&
      (i + 1 != ops.size || (List.range (ops.size - 1)).all fun j => o.after.any fun e => Region.binds .any e && e.on == j))
theorem regOk_of {ops : Array Oper} {a0 : Act} (h : regOkB ops a0.tmps.size = true) : RegOk ops a0 := by
  unfold regOkB at h
  rw [Bool.and_eq_true, decide_eq_true_eq, List.all_eq_true] at h
  obtain ⟨h0, h⟩ := h
  have hat : ∀ (i : Nat) (o : Oper), ops[i]? = some o → o.guard = none ∧ (∀ d, o.dst = some d → d < a0.tmps.size ∧ ∀ j p, ops[j]? = some p → j ≠ i → p.dst ≠ some d) ∧ (∀ e ∈ o.after, e.on < i) ∧
      (i + 1 = ops.size → ∀ j, j + 1 < ops.size → ∃ e ∈ o.after, Region.binds .any e = true ∧ e.on = j) := by
    intro i o ho
    have hi : i < ops.size := (Array.getElem?_eq_some_iff.1 ho).1
    have hh := h i (List.mem_range.2 hi)
    rw [ho] at hh
    simp only [Bool.and_eq_true] at hh
    obtain ⟨⟨⟨h1, h2⟩, h3⟩, h4⟩ := hh
    refine ⟨by simpa using h1, ?_, ?_, ?_⟩
    · intro d hd
      rw [hd] at h2
      simp only [Bool.and_eq_true, decide_eq_true_eq, List.all_eq_true] at h2
      refine ⟨h2.1, fun j p hp hji => ?_⟩
      have := h2.2 j (List.mem_range.2 (Array.getElem?_eq_some_iff.1 hp).1)
      rw [hp] at this
      simpa [hji] using this
    · intro e he
      have := Array.all_eq_true_iff_forall_mem.1 h3 e he
      simpa using this
    · intro hl j hj
      rw [Bool.or_eq_true] at h4
      rcases h4 with h4 | h4
      · simp [hl] at h4
      · have := List.all_eq_true.1 h4 j (List.mem_range.2 (by omega))
        obtain ⟨e, he, hb⟩ := Array.any_eq_true'.1 this
        rw [Bool.and_eq_true] at hb
        exact ⟨e, he, hb.1, by simpa using hb.2⟩
  have hmem : ∀ o ∈ ops, ∃ i, ops[i]? = some o := fun o ho => by
    obtain ⟨i, hi, e⟩ := Array.mem_iff_getElem.1 ho
    exact ⟨i, by rw [Array.getElem?_eq_getElem hi, e]⟩
  refine { pos := h0, guard := ?_, dst := ?_, room := ?_, back := ?_, last := ?_ }
  · intro o ho
    obtain ⟨i, hi⟩ := hmem o ho
    exact (hat i o hi).1
  · intro i j oi oj d hi hj di dj
    by_cases hij : j = i
    · exact hij.symm
    · exact absurd dj (((hat i oi hi).2.1 d di).2 j oj hj hij)
  · intro o ho d hd
    obtain ⟨i, hi⟩ := hmem o ho
    exact ((hat i o hi).2.1 d hd).1
  · intro i o ho e he
    exact (hat i o ho).2.2.1 e he
  · intro o ho j hj
    exact (hat _ o ho).2.2.2 (by omega) j hj

/-- No operation of the region has this slot. -/
theorem notDst {ops : Array Oper} {k : Nat} (h : (ops.all fun o => o.dst != some k) = true) : ∀ o ∈ ops, o.dst ≠ some k := by
  intro o ho
  have := Array.all_eq_true_iff_forall_mem.1 h o ho
  simpa using this
/-- F at each element, from number i on. -/
def AllFrom (F : Nat → Oper → Prop) : Nat → List Oper → Prop
  | _, [] => True
  | i, o :: l => F i o ∧ AllFrom F (i + 1) l
theorem allFrom_at {F : Nat → Oper → Prop} : ∀ {l : List Oper} {i : Nat}, AllFrom F i l → ∀ (j : Nat) (o : Oper), l[j]? = some o → F (i + j) o
  | [], _, _, j, o, h => by simp at h
  | x :: l, i, h, 0, o, ho => by
    simp at ho
    subst ho
    exact h.1
  | x :: l, i, h, j + 1, o, ho => by
    have := allFrom_at h.2 j o (by simpa using ho)
    rwa [show i + 1 + j = i + (j + 1) by omega] at this

theorem wp_region_list (hm : P.follows .mixedOrders = true) {id : Nat} {a0 : Act} {w0 : World} (hok : regOkB ops a0.tmps.size = true) (G : Array Bool → World → Prop) (R : Nat → World → World → Prop) (Pred : Nat → Value → World → Prop)
    (hG : G (Array.replicate ops.size false) w0.drew)
    (hstab : ∀ i j v w w', i ≠ j → Pred i v w → R j w w' → Pred i v w')
    (hstep : AllFrom (fun i o => ∀ a w listed, listed.size = ops.size → listed.getD i false = false → G listed w → (∀ j, (o.after.any fun e => Region.binds .any e && e.on == j) = true → Pred j (slotOf ops j a) w) → SameOut ops a0 a →
      o.wp P a w (fun a' w' => ∃ v, a' = a.put o.dst v ∧ G (listed.setIfInBounds i true) w' ∧ R i w w' ∧ (o.dst = none → v = undef) ∧ Pred i v w') Q) 0 ops.toList.dropLast)
    (hlast : ∀ o, ops.toList.getLast? = some o → ∀ a w listed, G listed w → (∀ j, j + 1 < ops.size → Pred j (slotOf ops j a) w) → SameOut ops a0 a → o.wp P a w (fun a' w' => Q .normal a' w') Q) :
    (Code.region id ops true).wp P Q a0 w0 := by
  refine wp_region_inv hm (regOk_of hok) G R Pred hG hstab ?_ ?_
  · intro i o a w ho hi
    have := allFrom_at hstep i o (by
      rw [List.getElem?_dropLast, Array.length_toList, if_pos (by omega), Array.getElem?_toList]
      exact ho)
    rw [Nat.zero_add] at this
    intro listed hls hl0 hg hd hs
    refine this a w listed hls hl0 hg (fun j hj => ?_) hs
    obtain ⟨e, he, hb⟩ := Array.any_eq_true'.1 hj
    rw [Bool.and_eq_true] at hb
    have h2 : e.on = j := by simpa using hb.2
    rw [← h2]
    exact hd e he hb.1
  · intro o a w ho listed
    refine fun hg hp hs => hlast o (by rw [List.getLast?_eq_getElem?, Array.length_toList, Array.getElem?_toList]; exact ho) a w listed hg hp hs

/-- The frame behind the region: a0, with what its slots hold. -/
theorem act_puts {a0 : Act} : ∀ (L : List (Nat × Value)) (a : Act), (∀ p ∈ L, p.1 < a0.tmps.size ∧ a.tmps.getD p.1 undef = p.2) → a.defers = a0.defers → a.tmps.size = a0.tmps.size → (∀ k, (∀ p ∈ L, p.1 ≠ k) → a.tmps.getD k undef = a0.tmps.getD k undef) →
    a = L.foldl (fun b p => b.put (some p.1) p.2) a0 := by
  intro L a hL hd hs hk
  have hsz : ∀ (L : List (Nat × Value)) (b : Act), (L.foldl (fun b p => b.put (some p.1) p.2) b).tmps.size = b.tmps.size := by
    intro L
    induction L with
    | nil => intro b; rfl
    | cons p L ih => intro b; rw [List.foldl_cons, ih, put_size]
  have hdf : ∀ (L : List (Nat × Value)) (b : Act), (L.foldl (fun b p => b.put (some p.1) p.2) b).defers = b.defers := by
    intro L
    induction L with
    | nil => intro b; rfl
    | cons p L ih => intro b; rw [List.foldl_cons, ih, put_defers]
  have hget : ∀ (L : List (Nat × Value)) (b : Act) (k : Nat) (v : Value), (∀ p ∈ L, p.1 < b.tmps.size ∧ (p.1 = k → p.2 = v)) → ((∀ p ∈ L, p.1 ≠ k) → b.tmps.getD k undef = v) → (L.foldl (fun b p => b.put (some p.1) p.2) b).tmps.getD k undef = v := by
    intro L
    induction L with
    | nil => intro b k v _ h; exact h (by simp)
    | cons p L ih =>
      intro b k v h1 h2
      rw [List.foldl_cons]
      refine ih _ k v (fun q hq => ?_) (fun hne => ?_)
      · rw [put_size]
        exact h1 q (by simp [hq])
      · by_cases hp : p.1 = k
        · have := h1 p (by simp)
          rw [hp, put_getD_eq (hp ▸ this.1)]
          exact this.2 hp
        · rw [put_getD_ne (by simp [hp])]
          exact h2 fun q hq => by
            rcases List.mem_cons.1 hq with rfl | hq
            · exact hp
            · exact hne q hq
  have e1 : a.tmps = (L.foldl (fun b p => b.put (some p.1) p.2) a0).tmps := by
    apply Array.ext
    · rw [hsz, hs]
    · intro k h1 h2
      have hh := hget L a0 k (a.tmps.getD k undef) (fun p hp => ⟨(hL p hp).1, fun e => by rw [← e]; exact (hL p hp).2.symm⟩) (fun hne => (hk k hne).symm)
      rw [Array.getD_eq_getD_getElem?, Array.getD_eq_getD_getElem?, Array.getElem?_eq_getElem h1, Array.getElem?_eq_getElem h2] at hh
      exact hh.symm
  have e2 := hd.trans (hdf L a0).symm
  cases a
  generalize L.foldl (fun b p => b.put (some p.1) p.2) a0 = c at *
  cases c
  simp_all
end
end Go.Proofs.YtmfnholhhakgaaaGreatDoor
