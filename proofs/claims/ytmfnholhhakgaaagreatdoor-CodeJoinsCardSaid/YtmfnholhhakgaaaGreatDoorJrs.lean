/- A region that draws its order: a load may be taken first where only the region's last operation turns its cell. -/
import Derived.Test.YtmfnholhhakgaaaGreatDoorReh
import Derived.OrdersHeld
namespace Go.Proofs.YtmfnholhhakgaaaGreatDoor
open Go Go.Proofs Go.RowKit
section
variable {P : Program} {ops : Array Oper} {Q : Exit → Act → World → Prop} {S : World → Prop} {last : Nat}
/-- Whatever order is picked from here on, and S holds behind every operation but the last one. -/
def wpAnyX (P : Program) (ops : Array Oper) (Q : Exit → Act → World → Prop) (S : World → Prop) (last : Nat) : Nat → Array Bool → Act → World → Prop
  | 0, listed, a, w => Region.ready .any ops listed = [] ∧ Q .normal a w
  | fuel + 1, listed, a, w =>
    (Region.ready .any ops listed = [] → Q .normal a w) ∧
    ∀ i ∈ Region.ready .any ops listed, wpOp P ops Q i (fun a' w' => (i ≠ last → S w') ∧ wpAnyX P ops Q S last fuel (listed.setIfInBounds i true) a' w') a w
theorem wpAny_of_X : ∀ (fuel : Nat) (listed : Array Bool) (a : Act) (w : World), wpAnyX P ops Q S last fuel listed a w → wpAny P .any ops Q fuel listed a w
  | 0, _, _, _, h => h
  | fuel + 1, _, _, _, h => ⟨h.1, fun i hi => wpOp_mono (fun a' w' h' => wpAny_of_X fuel _ a' w' h'.2) (h.2 i hi)⟩
/-- What is listed waits for nothing that is not. -/
def ClX (ops : Array Oper) (listed : Array Bool) : Prop := listed.size = ops.size ∧ ∀ k, listed.getD k false = true → ∀ j ∈ depsOf ops k, listed.getD j false = true
theorem ClX.step {listed : Array Bool} {j : Nat} (H : ClX ops listed) (hj : j ∈ Region.ready .any ops listed) : ClX ops (listed.setIfInBounds j true) := by
  obtain ⟨h0, o, ho, hdeps⟩ := mem_ready.1 hj
  have hjn : j < listed.size := by rw [H.1]; exact (Array.getElem?_eq_some_iff.1 ho).1
  refine ⟨by simpa using H.1, fun k hk i hi => ?_⟩
  have keep : ∀ q, listed.getD q false = true → (listed.setIfInBounds j true).getD q false = true := fun q hq => by
    by_cases e : j = q
    · subst e; simp [hjn]
    · rw [getD_set_ne false e]; exact hq
  by_cases e : j = k
  · subst e
    unfold depsOf at hi
    rw [ho] at hi
    obtain ⟨x, hx, rfl⟩ := List.mem_map.1 hi
    obtain ⟨hx1, hx2⟩ := List.mem_filter.1 hx
    exact keep _ (hdeps x (by simpa using hx1) hx2)
  · rw [getD_set_ne false e] at hk
    exact keep _ (H.2 k hk i hi)
/-- The last operation waits for all before it. -/
def LastX (ops : Array Oper) (last : Nat) : Prop := ∀ S : Nat → Prop, (∀ j ∈ depsOf ops last, S j) → (∀ i, S i → ∀ j ∈ depsOf ops i, S j) → ∀ j, j < last → S j
def lastXB (ops : Array Oper) (last : Nat) : Bool := let r := reachOf ops last (depsOf ops last); (List.range last).all fun j => r.contains j
theorem lastX_of (h : lastXB ops last = true) : LastX ops last := by
  intro S h1 h2 j hj
  have := List.all_eq_true.1 h j (List.mem_range.2 hj)
  exact reachOf_all h2 _ _ h1 j (by simpa using this)
theorem last_listed {listed : Array Bool} (hL : LastX ops last) (H : ClX ops listed) (hj : last ∈ Region.ready .any ops listed) {i : Nat} (hi : i < last) : listed.getD i false = true := by
  obtain ⟨_, o, ho, hdeps⟩ := mem_ready.1 hj
  refine hL (fun q => listed.getD q false = true) (fun q hq => ?_) H.2 i hi
  unfold depsOf at hq
  rw [ho] at hq
  obtain ⟨x, hx, rfl⟩ := List.mem_map.1 hq
  obtain ⟨hx1, hx2⟩ := List.mem_filter.1 hx
  exact hdeps x (by simpa using hx1) hx2
theorem wpAnyX_first {i : Nat} {oi : Oper} {v : Value} (hL : LastX ops last) (hil : i < last) (hi : ops[i]? = some oi) (hsel : ∀ (j : Nat) (o : Oper) cs b, ops[j]? = some o → o.op ≠ .select cs b)
    (hQ : ∀ c a w, Q (.panic c) (a.put oi.dst v) w → Q (.panic c) a w) :
    ∀ (fuel : Nat) (listed : Array Bool) (a : Act) (w : World), ClX ops listed →
      (∀ j oj, ops[j]? = some oj → j ≠ i → listed.getD j true = false → (∀ e ∈ oj.after, Region.binds .any e = true → e.on ≠ i) → oi.apart ops oj = true) →
      i ∈ Region.ready .any ops listed → YieldsIf P ops S oi v a → S w →
      wpAnyX P ops Q S last fuel (listed.setIfInBounds i true) (a.put oi.dst v) w → wpAnyX P ops Q S last (fuel + 1) listed a w := by
  intro fuel
  induction fuel with
  | zero =>
    intro listed a w _ _ hr hy hS H
    refine ⟨fun h => (by rw [h] at hr; cases hr), fun j hj => ?_⟩
    by_cases hji : j = i
    · subst hji; exact hy.wpOp hi hS ⟨fun _ => hS, H⟩
    · have := ready_mono hj hji
      rw [H.1] at this
      cases this
  | succ fuel ih =>
    intro listed a w hcl hfree hr hy hS H
    refine ⟨fun h => (by rw [h] at hr; cases hr), fun j hj => ?_⟩
    by_cases hji : j = i
    · subst hji; exact hy.wpOp hi hS ⟨fun _ => hS, H⟩
    · have h1 := H.2 j (ready_mono hj hji)
      have hjl : j ≠ last := by
        rintro rfl
        have e1 := last_listed hL hcl hj hil
        have e0 := (mem_ready.1 hr).1
        have hin : i < listed.size := by rw [hcl.1]; exact (Array.getElem?_eq_some_iff.1 hi).1
        rw [getD_both hin, e1] at e0
        cases e0
      obtain ⟨hjun, oj, hoj, hall⟩ := mem_ready.1 hj
      have hnot : ∀ e ∈ oj.after, Region.binds .any e = true → e.on ≠ i := fun e he hb heq => by
        have h1 := hall e he hb
        have h0 := (mem_ready.1 hr).1
        rw [heq] at h1
        rcases Nat.lt_or_ge i listed.size with h' | h'
        · simp [h'] at h0 h1; rw [h0] at h1; cases h1
        · simp [Array.getElem?_eq_none h'] at h1
      have h2 := wpOp_putIf hoj (hfree j oj hoj hji hjun hnot) (fun cs b => hsel i oi cs b hi) (fun cs b => hsel j oj cs b hoj) hQ hy h1
      have hfree' : ∀ k ok, ops[k]? = some ok → k ≠ i → (listed.setIfInBounds j true).getD k true = false →
          (∀ e ∈ ok.after, Region.binds .any e = true → e.on ≠ i) → oi.apart ops ok = true := fun k ok hk hki hun hno => by
        refine hfree k ok hk hki ?_ hno
        by_cases hjk : j = k
        · subst hjk; exact hjun
        · rw [getD_set_ne true hjk] at hun; exact hun
      refine wpOp_mono (fun a' w' h3 => ⟨h3.2.1, ih (listed.setIfInBounds j true) a' w' (hcl.step hj) hfree' (ready_mono hr (Ne.symm hji)) h3.1 (h3.2.1 hjl) ?_⟩) h2
      rw [Array.setIfInBounds_comm _ _ hji]
      exact h3.2.2
/-- The same, reckoned. -/
def clXB (ops : Array Oper) (listed : Array Bool) : Bool := listed.size == ops.size && (List.range listed.size).all fun k => !listed.getD k false || (depsOf ops k).all fun j => listed.getD j false
theorem clX_of {listed : Array Bool} (h : clXB ops listed = true) : ClX ops listed := by
  unfold clXB at h
  rw [Bool.and_eq_true, beq_iff_eq, List.all_eq_true] at h
  refine ⟨h.1, fun k hk j hj => ?_⟩
  have hkn : k < listed.size := by
    rcases Nat.lt_or_ge k listed.size with h' | h'
    · exact h'
    · simp [Array.getElem?_eq_none h'] at hk
  have := h.2 k (List.mem_range.2 hkn)
  rw [hk, Bool.not_true, Bool.false_or] at this
  exact List.all_eq_true.1 this j hj
/-- Take number i first. -/
theorem wpAnyX_take {i : Nat} {oi : Oper} {v : Value} {fuel : Nat} {listed : Array Bool} {a : Act} {w : World} (hi : ops[i]? = some oi)
    (hb : (Region.noSelect ops && Region.free .any ops listed i && (Region.ready .any ops listed).contains i && clXB ops listed && lastXB ops last && decide (i < last)) = true)
    (hQ : ∀ c a w, Q (.panic c) (a.put oi.dst v) w → Q (.panic c) a w) (hw : Region.wanted oi (yielded ops a.tmps) = true) (hy : ∀ w, S w → (execOp a.eval oi).run P w = .ok (.value v) w) (hS : S w)
    (h : wpAnyX P ops Q S last fuel (listed.setIfInBounds i true) (a.put oi.dst v) w) : wpAnyX P ops Q S last (fuel + 1) listed a w := by
  simp only [Bool.and_eq_true, decide_eq_true_eq] at hb
  obtain ⟨⟨⟨⟨⟨h1, h2⟩, h3⟩, h4⟩, h5⟩, h6⟩ := hb
  exact wpAnyX_first (lastX_of h5) h6 hi (Region.noSelect_spec h1) hQ fuel listed a w (clX_of h4) (Region.free_spec hi h2) (by simpa using h3) (.inl ⟨hw, hy⟩) hS h
/-- The one that may come up comes up. -/
theorem wpAnyX_one {k : Nat} {o : Oper} {fuel : Nat} {listed : Array Bool} {a : Act} {w : World} (hi : ops[k]? = some o) (hr : Region.ready .any ops listed = [k]) (hw : Region.wanted o (yielded ops a.tmps) = true)
    (h : o.wp P a w (fun a' w' => (k ≠ last → S w') ∧ wpAnyX P ops Q S last fuel (listed.setIfInBounds k true) a' w') Q) : wpAnyX P ops Q S last (fuel + 1) listed a w := by
  refine ⟨fun h0 => absurd (hr ▸ h0) (by simp), fun i hi' => ?_⟩
  rw [hr] at hi'
  obtain rfl := List.mem_singleton.1 hi'
  unfold wpOp
  rw [hi]
  simp only [hw, if_true]
  exact .inl h
theorem wpAnyX_done {listed : Array Bool} {a : Act} {w : World} (hr : Region.ready .any ops listed = []) (h : Q .normal a w) : ∀ fuel, wpAnyX P ops Q S last fuel listed a w
  | 0 => ⟨hr, h⟩
  | _ + 1 => ⟨fun _ => h, by rw [hr]; simp⟩
theorem wp_region_X {id : Nat} {a : Act} {w : World} (hm : P.follows .mixedOrders = true) (S : World → Prop) (last : Nat)
    (h : wpAnyX P ops Q S last ops.size (Array.replicate ops.size false) a w.drew) : (Code.region id ops true).wp P Q a w :=
  wp_region_any hm (wpAny_of_X _ _ _ _ h)
end
end Go.Proofs.YtmfnholhhakgaaaGreatDoor
