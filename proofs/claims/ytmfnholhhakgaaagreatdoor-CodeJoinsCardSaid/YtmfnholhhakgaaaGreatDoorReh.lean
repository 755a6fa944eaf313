/- A region that draws its order: as in Reg, its last operation's slot too is as it was until that operation comes. The frame behind the region. -/
import Derived.Test.YtmfnholhhakgaaaGreatDoorReg
namespace Go.Proofs.YtmfnholhhakgaaaGreatDoor
open Go Go.Proofs Go.RowKit

/-- Outside the slots of the region's operations but the last a is as a0. -/
def SameOut2 (ops : Array Oper) (a0 a : Act) : Prop := a.defers = a0.defers ∧ a.tmps.size = a0.tmps.size ∧ ∀ k, (∀ o ∈ ops.toList.dropLast, o.dst ≠ some k) → a.tmps.getD k undef = a0.tmps.getD k undef
theorem mem_pop_of {ops : Array Oper} {i : Nat} {o : Oper} (ho : ops[i]? = some o) (hi : i + 1 < ops.size) : o ∈ ops.toList.dropLast := by
  refine List.mem_of_getElem? (i := i) ?_
  rw [List.getElem?_dropLast, Array.length_toList, if_pos (by omega), Array.getElem?_toList]
  exact ho
/-- No operation of the region but the last has this slot. -/
theorem notDst2 {ops : Array Oper} {k : Nat} (h : (ops.toList.dropLast.all fun o => o.dst != some k) = true) : ∀ o ∈ ops.toList.dropLast, o.dst ≠ some k := by
  intro o ho
  have := List.all_eq_true.1 h o ho
  simpa using this
section
variable {P : Program} {ops : Array Oper} {Q : Exit → Act → World → Prop}
/-- What operation i waits for. -/
def depsOf (ops : Array Oper) (i : Nat) : List Nat := match ops[i]? with
  | some o => (o.after.toList.filter fun e => Region.binds .any e).map (·.on)
  | none => []
/-- What is waited for by what is marked, from k - 1 down. -/
def reachOf (ops : Array Oper) : Nat → List Nat → List Nat
  | 0, m => m
  | k + 1, m => reachOf ops k (if m.contains k then m ++ depsOf ops k else m)
theorem reachOf_all {ops : Array Oper} {S : Nat → Prop} (hs : ∀ i, S i → ∀ j ∈ depsOf ops i, S j) : ∀ (k : Nat) (m : List Nat), (∀ j ∈ m, S j) → ∀ j ∈ reachOf ops k m, S j
  | 0, m, h => h
  | k + 1, m, h => by
    unfold reachOf
    refine reachOf_all hs k _ ?_
    split
    · rename_i hk
      intro j hj
      rcases List.mem_append.1 hj with hj | hj
      · exact h j hj
      · exact hs k (h k (by simpa using hk)) j hj
    · exact h
/-- What the region's numbers must fulfil: no guards; each slot is one operation's; an operation waits for earlier ones only; the last one waits for all. -/
structure RegOk2 (ops : Array Oper) (a0 : Act) : Prop where
  pos : 0 < ops.size
  guard : ∀ o ∈ ops, o.guard = none
  dst : ∀ (i j : Nat) (oi oj : Oper) (d : Tmp), ops[i]? = some oi → ops[j]? = some oj → oi.dst = some d → oj.dst = some d → i = j
  room : ∀ o ∈ ops, ∀ d, o.dst = some d → d < a0.tmps.size
  back : ∀ (i : Nat) (o : Oper), ops[i]? = some o → ∀ e ∈ o.after, Region.binds .any e = true → e.on < i
  last : ∀ S : Nat → Prop, (∀ j ∈ depsOf ops (ops.size - 1), S j) → (∀ i, S i → ∀ j ∈ depsOf ops i, S j) → ∀ j, j + 1 < ops.size → S j

theorem wp_region_inv3 (hm : P.follows .mixedOrders = true) {id : Nat} {a0 : Act} {w0 : World} (hok : RegOk2 ops a0) (G : Array Bool → World → Prop) (R : Nat → World → World → Prop) (Pred : Nat → Value → World → Prop)
    (hG : G (Array.replicate ops.size false) w0.drew)
    (hstab : ∀ i j v w w', i ≠ j → Pred i v w → R j w w' → Pred i v w')
    (hstep : ∀ i o a w, ops[i]? = some o → i + 1 < ops.size → ∀ listed, listed.size = ops.size → listed.getD i false = false → G listed w → (∀ e ∈ o.after, Region.binds .any e = true → Pred e.on (slotOf ops e.on a) w) → SameOut2 ops a0 a →
      o.wp P a w (fun a' w' => ∃ v, a' = a.put o.dst v ∧ G (listed.setIfInBounds i true) w' ∧ R i w w' ∧ (o.dst = none → v = undef) ∧ Pred i v w') Q)
    (hlast : ∀ o a w, ops[ops.size - 1]? = some o → ∀ listed, G listed w → (∀ j, j + 1 < ops.size → listed.getD j false = true) → (∀ j, j + 1 < ops.size → Pred j (slotOf ops j a) w) → SameOut2 ops a0 a → o.wp P a w (fun a' w' => Q .normal a' w') Q) :
    (Code.region id ops true).wp P Q a0 w0 := by
  refine wp_region_any hm ?_
  have key : ∀ fuel listed a w, unl ops.size listed ≤ fuel → listed.size = ops.size → listed.getD (ops.size - 1) true = false → G listed w → SameOut2 ops a0 a →
      (∀ i, listed.getD i false = true → Pred i (slotOf ops i a) w) → (∀ i, listed.getD i false = true → ∀ j ∈ depsOf ops i, listed.getD j false = true) → wpAny P .any ops Q fuel listed a w := by
    have hp := hok.pos
    intro fuel
    induction fuel with
    | zero =>
      intro listed a w hu hs hl _ _ _ _
      exfalso
      unfold unl at hu
      have := List.countP_eq_zero.1 (Nat.le_zero.1 hu) (ops.size - 1) (List.mem_range.2 (by omega))
      rw [hl] at this
      simp at this
    | succ fuel ih =>
      intro listed a w hu hs hl hg hso hpr hcl
      refine ⟨fun hr => ?_, fun i hi => ?_⟩
      · exfalso
        -- the least operation that is not listed is ready
        have hex : ∃ m, listed.getD m true = false := ⟨_, hl⟩
        obtain ⟨m, hm0, hmin⟩ : ∃ m, listed.getD m true = false ∧ ∀ k, k < m → ¬ listed.getD k true = false := by
          have hw : ∀ n, (∃ m, m ≤ n ∧ listed.getD m true = false) → ∃ m, listed.getD m true = false ∧ ∀ k, k < m → ¬ listed.getD k true = false := by
            intro n
            induction n with
            | zero =>
              rintro ⟨m, hm, h⟩
              exact ⟨m, h, fun k hk => by omega⟩
            | succ n ihn =>
              rintro ⟨m, hm, h⟩
              by_cases hx : ∃ q, q ≤ n ∧ listed.getD q true = false
              · exact ihn hx
              · refine ⟨m, h, fun k hk hf => hx ⟨k, by omega, hf⟩⟩
          exact hw _ ⟨_, Nat.le_refl _, hl⟩
        have hml : m < ops.size := by
          rcases Nat.lt_or_ge m ops.size with h | h
          · exact h
          · exact absurd hl (hmin _ (by omega))
        have hmem : m ∈ Region.ready .any ops listed := by
          refine mem_ready.2 ⟨hm0, ops[m], by simp [hml], fun e he hbind => ?_⟩
          have hlt := hok.back m _ (by simp [hml]) e he hbind
          have := hmin _ hlt
          rw [← getD_both (by omega)]
          simpa using this
        rw [hr] at hmem
        cases hmem
      · obtain ⟨h0, o, ho, hdeps⟩ := mem_ready.1 hi
        have hin : i < ops.size := (Array.getElem?_eq_some_iff.1 ho).1
        have hom : o ∈ ops := Array.mem_of_getElem? ho
        have hw : Region.wanted o (yielded ops a.tmps) = true := by simp [Region.wanted, hok.guard o hom]
        unfold wpOp
        rw [ho]
        simp only [hw, if_true]
        left
        by_cases hil : i = ops.size - 1
        · subst hil
          have hall : ∀ j, j + 1 < ops.size → listed.getD j false = true := by
            refine hok.last (fun j => listed.getD j false = true) (fun j hj => ?_) hcl
            unfold depsOf at hj
            rw [ho] at hj
            obtain ⟨e, he, rfl⟩ := List.mem_map.1 hj
            obtain ⟨he1, he2⟩ := List.mem_filter.1 he
            exact hdeps e (by simpa using he1) he2
          refine Oper.wp_mono ?_ (hlast o a w ho listed hg hall (fun j hj => hpr j (hall j hj)) hso)
          intro a' w' hq
          have hr : Region.ready .any ops (listed.setIfInBounds (ops.size - 1) true) = [] := by
            rw [List.eq_nil_iff_forall_not_mem]
            intro j hj
            obtain ⟨hj0, oj, hoj, _⟩ := mem_ready.1 hj
            have hjn : j < ops.size := (Array.getElem?_eq_some_iff.1 hoj).1
            by_cases hje : j = ops.size - 1
            · subst hje
              have e1 : (listed.setIfInBounds (ops.size - 1) true).getD (ops.size - 1) true = true := by simp [show ops.size - 1 < listed.size by omega]
              rw [e1] at hj0
              cases hj0
            · rw [getD_set_ne true (Ne.symm hje), getD_both (by omega), hall j (by omega)] at hj0
              cases hj0
          cases fuel with
          | zero => exact ⟨hr, hq⟩
          | succ fuel => exact ⟨fun _ => hq, fun j hj => by rw [hr] at hj; cases hj⟩
        · refine Oper.wp_mono ?_ (hstep i o a w ho (by omega) listed hs (by rw [← getD_both (by omega)]; exact h0) hg (fun e he hb => hpr _ (hdeps e he hb)) hso)
          rintro a' w' ⟨v, rfl, hg', hR, hv, hpi⟩
          refine ih _ _ _ ?_ (by simpa using hs) ?_ hg' ⟨(put_defers _ _ _).trans hso.1, (put_size _ _ _).trans hso.2.1, fun k hk => ?_⟩ ?_ ?_
          · have := unl_set hs hin h0
            omega
          · rw [getD_set_ne true hil]
            exact hl
          · rw [put_getD_ne (hk o (mem_pop_of ho (by omega)))]
            exact hso.2.2 k hk
          · intro j hj
            by_cases hij : i = j
            · subst hij
              have : slotOf ops i (a.put o.dst v) = v := by
                unfold slotOf
                rw [ho, Option.bind_some]
                cases hd : o.dst with
                | none => exact (hv hd).symm
                | some d => exact put_getD_eq (by rw [hso.2.1]; exact hok.room o hom d hd)
              rw [this]
              exact hpi
            · rw [getD_set_ne false hij] at hj
              have hjp := hstab _ _ _ _ _ (Ne.symm hij) (hpr j hj) hR
              have : slotOf ops j (a.put o.dst v) = slotOf ops j a := by
                unfold slotOf
                cases hoj : ops[j]? with
                | none => rfl
                | some oj =>
                  rw [Option.bind_some]
                  cases hd : oj.dst with
                  | none => rfl
                  | some d => exact put_getD_ne fun e => hij (hok.dst i j o oj d ho hoj e hd)
              rw [this]
              exact hjp
          · intro k hk j hj
            by_cases hjl : listed.getD j false = true
            · by_cases hij : i = j
              · subst hij
                simp [show i < listed.size by omega]
              · rw [getD_set_ne false hij]
                exact hjl
            · exfalso
              by_cases hik : i = k
              · subst hik
                unfold depsOf at hj
                rw [ho] at hj
                obtain ⟨e, he, rfl⟩ := List.mem_map.1 hj
                obtain ⟨he1, he2⟩ := List.mem_filter.1 he
                exact hjl (hdeps e (by simpa using he1) he2)
              · rw [getD_set_ne false hik] at hk
                exact hjl (hcl k hk j hj)
  refine key _ _ _ _ ?_ (by simp) ?_ hG ⟨rfl, rfl, fun _ _ => rfl⟩ ?_ ?_
  · unfold unl
    exact Nat.le_trans List.countP_le_length (by simp)
  · have := hok.pos
    simp [show ops.size - 1 < ops.size by omega]
  · intro i hi
    by_cases hin : i < ops.size <;> simp [hin] at hi
  · intro i hi
    by_cases hin : i < ops.size <;> simp [hin] at hi

/-- The same, reckoned. -/
def regOkB2 (ops : Array Oper) (n : Nat) : Bool :=
  decide (0 < ops.size) && (List.range ops.size).all (fun i => match ops[i]? with
    | none => true
    | some o => o.guard.isNone && (match o.dst with
        | none => true
        | some d => decide (d < n) && (List.range ops.size).all fun j => j == i || (match ops[j]? with
            | none => true
            | some p => p.dst != some d)) && o.after.all (fun e => !Region.binds .any e || decide (e.on < i))) &&
      (let r := reachOf ops (ops.size - 1) (depsOf ops (ops.size - 1)); (List.range (ops.size - 1)).all fun j => r.contains j)
theorem regOk2_of {ops : Array Oper} {a0 : Act} (h : regOkB2 ops a0.tmps.size = true) : RegOk2 ops a0 := by
  unfold regOkB2 at h
  rw [Bool.and_eq_true, Bool.and_eq_true, decide_eq_true_eq, List.all_eq_true] at h
  obtain ⟨⟨h0, h⟩, hlast⟩ := h
  have hat : ∀ (i : Nat) (o : Oper), ops[i]? = some o → o.guard = none ∧ (∀ d, o.dst = some d → d < a0.tmps.size ∧ ∀ j p, ops[j]? = some p → j ≠ i → p.dst ≠ some d) ∧ (∀ e ∈ o.after, Region.binds .any e = true → e.on < i) := by
    intro i o ho
    have hi : i < ops.size := (Array.getElem?_eq_some_iff.1 ho).1
    have hh := h i (List.mem_range.2 hi)
    rw [ho] at hh
    simp only [Bool.and_eq_true] at hh
    obtain ⟨⟨h1, h2⟩, h3⟩ := hh
    refine ⟨by simpa using h1, ?_, ?_⟩
    · intro d hd
      rw [hd] at h2
      simp only [Bool.and_eq_true, decide_eq_true_eq, List.all_eq_true] at h2
      refine ⟨h2.1, fun j p hp hji => ?_⟩
      have := h2.2 j (List.mem_range.2 (Array.getElem?_eq_some_iff.1 hp).1)
      rw [hp] at this
      simpa [hji] using this
    · intro e he hb
      have := Array.all_eq_true_iff_forall_mem.1 h3 e he
      rw [hb] at this
      simpa using this
  have hmem : ∀ o ∈ ops, ∃ i, ops[i]? = some o := fun o ho => by
    obtain ⟨i, hi, e⟩ := Array.mem_iff_getElem.1 ho
    exact ⟨i, by rw [Array.getElem?_eq_getElem hi, e]⟩
  refine { pos := h0, guard := ?_, dst := ?_, room := ?_, back := ?_, last := ?_ }
  · intro o ho
    obtain ⟨i, hi⟩ := hmem o ho
    exact (hat i o hi).1
  · intro i j oi oj d hi hj di dj
    by_cases hij : j = i
    · exact hij.symm
    · exact absurd dj (((hat i oi hi).2.1 d di).2 j oj hj hij)
  · intro o ho d hd
    obtain ⟨i, hi⟩ := hmem o ho
    exact ((hat i o hi).2.1 d hd).1
  · intro i o ho e he hb
    exact (hat i o ho).2.2 e he hb
  · intro S h1 h2 j hj
    have := List.all_eq_true.1 hlast j (List.mem_range.2 (by omega))
    exact reachOf_all h2 _ _ h1 j (by simpa using this)

theorem wp_region_list3 (hm : P.follows .mixedOrders = true) {id : Nat} {a0 : Act} {w0 : World} (hok : regOkB2 ops a0.tmps.size = true) (G : Array Bool → World → Prop) (R : Nat → World → World → Prop) (Pred : Nat → Value → World → Prop)
    (hG : G (Array.replicate ops.size false) w0.drew)
    (hstab : ∀ i j v w w', i ≠ j → Pred i v w → R j w w' → Pred i v w')
    (hstep : AllFrom (fun i o => ∀ a w listed, listed.size = ops.size → listed.getD i false = false → G listed w → (∀ j, (o.after.any fun e => Region.binds .any e && e.on == j) = true → Pred j (slotOf ops j a) w) → SameOut2 ops a0 a →
      o.wp P a w (fun a' w' => ∃ v, a' = a.put o.dst v ∧ G (listed.setIfInBounds i true) w' ∧ R i w w' ∧ (o.dst = none → v = undef) ∧ Pred i v w') Q) 0 ops.toList.dropLast)
    (hlast : ∀ o, ops.toList.getLast? = some o → ∀ a w listed, G listed w → (∀ j, j + 1 < ops.size → listed.getD j false = true) → (∀ j, j + 1 < ops.size → Pred j (slotOf ops j a) w) → SameOut2 ops a0 a → o.wp P a w (fun a' w' => Q .normal a' w') Q) :
    (Code.region id ops true).wp P Q a0 w0 := by
  refine wp_region_inv3 hm (regOk2_of hok) G R Pred hG hstab ?_ ?_
  · intro i o a w ho hi
    have := allFrom_at hstep i o (by
      rw [List.getElem?_dropLast, Array.length_toList, if_pos (by omega), Array.getElem?_toList]
      exact ho)
    rw [Nat.zero_add] at this
    intro listed hls hl0 hg hd hs
    refine this a w listed hls hl0 hg (fun j hj => ?_) hs
    obtain ⟨e, he, hb⟩ := Array.any_eq_true'.1 hj
    rw [Bool.and_eq_true] at hb
    have h2 : e.on = j := by simpa using hb.2
    rw [← h2]
    exact hd e he hb.1
  · intro o a w ho listed
    refine fun hg hl hp hs => hlast o (by rw [List.getLast?_eq_getElem?, Array.length_toList, Array.getElem?_toList]; exact ho) a w listed hg hl hp hs


theorem wp_region_list2 (hm : P.follows .mixedOrders = true) {id : Nat} {a0 : Act} {w0 : World} (hok : regOkB2 ops a0.tmps.size = true) (G : Array Bool → World → Prop) (R : Nat → World → World → Prop) (Pred : Nat → Value → World → Prop)
    (hG : G (Array.replicate ops.size false) w0.drew)
    (hstab : ∀ i j v w w', i ≠ j → Pred i v w → R j w w' → Pred i v w')
    (hstep : AllFrom (fun i o => ∀ a w listed, listed.size = ops.size → listed.getD i false = false → G listed w → (∀ j, (o.after.any fun e => Region.binds .any e && e.on == j) = true → Pred j (slotOf ops j a) w) → SameOut2 ops a0 a →
      o.wp P a w (fun a' w' => ∃ v, a' = a.put o.dst v ∧ G (listed.setIfInBounds i true) w' ∧ R i w w' ∧ (o.dst = none → v = undef) ∧ Pred i v w') Q) 0 ops.toList.dropLast)
    (hlast : ∀ o, ops.toList.getLast? = some o → ∀ a w listed, G listed w → (∀ j, j + 1 < ops.size → Pred j (slotOf ops j a) w) → SameOut2 ops a0 a → o.wp P a w (fun a' w' => Q .normal a' w') Q) :
    (Code.region id ops true).wp P Q a0 w0 :=
  wp_region_list3 hm hok G R Pred hG hstab hstep fun o ho a w listed hg _ hp hs => hlast o ho a w listed hg hp hs

end
def dstsOf (ops : Array Oper) : List Nat := ops.toList.dropLast.filterMap (·.dst)
/-- The frame behind the region: a0, with what its slots hold. -/
theorem act_all {ops : Array Oper} {a0 a : Act} (hs : SameOut2 ops a0 a) (L : List Nat) (hL : dstsOf ops = L) (hb : (L.all fun d => decide (d < a0.tmps.size)) = true) :
    a = (L.map fun d => (d, a.tmps.getD d undef)).foldl (fun b p => b.put (some p.1) p.2) a0 := by
  subst hL
  refine act_puts _ a ?_ hs.1 hs.2.1 ?_
  · intro p hp
    obtain ⟨d, hd, rfl⟩ := List.mem_map.1 hp
    have := List.all_eq_true.1 hb d hd
    exact ⟨by simpa using this, rfl⟩
  · intro k hk
    refine hs.2.2 k fun o ho he => ?_
    exact hk (k, a.tmps.getD k undef) (List.mem_map.2 ⟨k, List.mem_filterMap.2 ⟨o, ho, he⟩, rfl⟩) rfl
end Go.Proofs.YtmfnholhhakgaaaGreatDoor
