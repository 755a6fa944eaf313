/- Sorted and compacted lists: their elements; ascending lists with the same elements are equal; the entries and the next places of a well-formed code lie in it. -/
import Derived.Test.YtmfnholhhakgaaaGreatDoorMhh
namespace Go.Proofs.YtmfnholhhakgaaaGreatDoor
open Go Go.Proofs Go.RowKit Go.Sort

theorem comp_upto (zs : List Int) (hs : zs.Pairwise (· ≤ ·)) : ∀ m, m ≤ zs.length → (∀ z, z ∈ Lib.compactUpTo zs.toArray m ↔ z ∈ zs.take m) ∧ (Lib.compactUpTo zs.toArray m).Pairwise (· < ·) ∧ (∀ z ∈ Lib.compactUpTo zs.toArray m, 0 < m → z ≤ zs[m - 1]!)
  | 0, _ => by simp [Lib.compactUpTo]
  | m + 1, hm => by
    obtain ⟨h1, h2, h3⟩ := comp_upto zs hs m (by omega)
    have hx : zs[m]? = some (zs[m]'(by omega)) := List.getElem?_eq_getElem _
    have hb : zs.toArray[m]! = zs[m]'(by omega) := by simp [show m < zs.length by omega]
    have htake : zs.take (m + 1) = zs.take m ++ [zs[m]'(by omega)] := by rw [List.take_add_one, hx]; rfl
    rw [Lib.compactUpTo_succ, htake]
    have hlast : (zs[m + 1 - 1]! : Int) = zs[m]'(by omega) := by simp [show m < zs.length by omega]
    rw [hlast]
    cases hk : Lib.keeps zs.toArray m with
    | true =>
      simp only [if_true, hb]
      have hlt : ∀ z ∈ Lib.compactUpTo zs.toArray m, z < zs[m]'(by omega) := by
        intro z hz
        by_cases h0 : m = 0
        · subst h0
          rw [h1] at hz
          simp at hz
        · have h4 := h3 z hz (by omega)
          have hb1 : (zs[m - 1]! : Int) = zs[m - 1]'(by omega) := by simp [show m - 1 < zs.length by omega]
          rw [hb1] at h4
          have h5 : zs[m - 1]'(by omega) ≤ zs[m]'(by omega) := (List.pairwise_iff_getElem.1 hs) (m - 1) m (by omega) (by omega) (by omega)
          have h6 : zs[m - 1]'(by omega) ≠ zs[m]'(by omega) := by
            intro e
            have := Lib.keeps_neg (d := zs.toArray) (m := m) (by omega) (by simp [show m < zs.length by omega, show m - 1 < zs.length by omega, e])
            rw [this] at hk
            cases hk
          omega
      refine ⟨fun z => by simp only [List.mem_append, List.mem_singleton, h1], ?_, ?_⟩
      · rw [List.pairwise_append]
        exact ⟨h2, by simp, fun a ha b hb' => by rw [List.mem_singleton.1 hb']; exact hlt a ha⟩
      · intro z hz _
        rcases List.mem_append.1 hz with h | h
        · have := hlt z h; omega
        · rw [List.mem_singleton.1 h]; omega
    | false =>
      simp only [Bool.false_eq_true, if_false, List.append_nil]
      have h0 : 0 < m := by
        rcases Nat.eq_zero_or_pos m with h | h
        · subst h; rw [Lib.keeps_lt_one _ 0 (by omega)] at hk; cases hk
        · exact h
      have he : zs[m]'(by omega) = zs[m - 1]'(by omega) := by
        refine Classical.byContradiction fun h => ?_
        have := Lib.keeps_pos (d := zs.toArray) (m := m) (by simpa [show m < zs.length by omega, show m - 1 < zs.length by omega] using h)
        rw [this] at hk
        cases hk
      have hin : zs[m]'(by omega) ∈ zs.take m := by
        rw [he]
        exact List.mem_take_iff_getElem.2 ⟨m - 1, by omega, rfl⟩
      refine ⟨fun z => ?_, h2, fun z hz _ => ?_⟩
      · rw [h1]
        simp only [List.mem_append, List.mem_singleton]
        exact ⟨.inl, fun h => h.elim id fun e => e ▸ hin⟩
      · have h4 := h3 z hz h0
        have hb1 : (zs[m - 1]! : Int) = zs[m - 1]'(by omega) := by simp [show m - 1 < zs.length by omega]
        rw [hb1] at h4
        omega
theorem sortL_sorted (l : List Int) : (sortL l).Pairwise (· ≤ ·) := by
  have := List.pairwise_mergeSort (le := fun x y : Int => decide (x ≤ y)) (fun a b c h1 h2 => by simp at *; omega) (fun a b => by simp; omega) l
  unfold sortL
  exact this.imp fun h => by simpa using h
theorem mem_cs (l : List Int) (z : Int) : z ∈ Lib.compact (sortL l) ↔ z ∈ l := by
  have h := (comp_upto (sortL l) (sortL_sorted l) (sortL l).length (Nat.le_refl _)).1 z
  unfold Lib.compact
  rw [h, List.take_length]
  unfold sortL
  exact List.mem_mergeSort
theorem cs_lt (l : List Int) : (Lib.compact (sortL l)).Pairwise (· < ·) := (comp_upto (sortL l) (sortL_sorted l) (sortL l).length (Nat.le_refl _)).2.1
/-- Ascending lists with the same elements are equal. -/
theorem asc_ext : ∀ {l m : List Int}, l.Pairwise (· < ·) → m.Pairwise (· < ·) → (∀ z, z ∈ l ↔ z ∈ m) → l = m
  | [], [], _, _, _ => rfl
  | [], y :: m, _, _, h => absurd ((h y).2 (by simp)) (by simp)
  | x :: l, [], _, _, h => absurd ((h x).1 (by simp)) (by simp)
  | x :: l, y :: m, h1, h2, h => by
    rw [List.pairwise_cons] at h1 h2
    have hxy : x = y := by
      have a := (h x).1 (by simp)
      have b := (h y).2 (by simp)
      rcases List.mem_cons.1 a with e | a'
      · exact e
      · rcases List.mem_cons.1 b with e | b'
        · exact e.symm
        · have := h2.1 x a'; have := h1.1 y b'; omega
    subst hxy
    refine congrArg (x :: ·) (asc_ext h1.2 h2.2 fun z => ⟨fun hz => ?_, fun hz => ?_⟩)
    · rcases List.mem_cons.1 ((h z).1 (by simp [hz])) with e | h'
      · subst e; exact absurd (h1.1 z hz) (by omega)
      · exact h'
    · rcases List.mem_cons.1 ((h z).2 (by simp [hz])) with e | h'
      · subst e; exact absurd (h2.1 z hz) (by omega)
      · exact h'
/-- A number of a place of a code. -/
def Pl (n : Nat) (z : Int) : Prop := ∃ k : Nat, z = k ∧ k < n
theorem pl_of {n : Nat} {z : Int} (h : wiB z 0 ((n : Int) - 1) = true) : Pl n z := by
  unfold wiB at h
  simp at h
  exact ⟨z.toNat, by omega, by omega⟩
theorem ent_raw {c : CodeD} (W : Well c) (h0 : 0 < c.instrs.length) : ∀ z ∈ entRaw c, Pl c.instrs.length z := by
  intro z hz
  unfold entRaw at hz
  simp only [List.mem_append, List.mem_flatMap, List.mem_singleton] at hz
  rcases hz with (((rfl | ⟨p, hp, rfl⟩) | ⟨t, ht, hz⟩) | ⟨s, hs, hz⟩) | ⟨x, hx, hz⟩
  · exact ⟨0, rfl, h0⟩
  · have := W.p p hp
    unfold procOk at this
    simp only [Bool.and_eq_true] at this
    exact pl_of this.1.1.1
  · have hw := W.t t ht
    unfold thunkOk placeOk at hw
    simp only [Bool.and_eq_true, Bool.or_eq_true, decide_eq_true_eq] at hw
    unfold thunkL at hz
    simp only [List.mem_filter, List.mem_cons, List.not_mem_nil, or_false, decide_eq_true_eq] at hz
    obtain ⟨rfl | rfl | rfl, h1⟩ := hz
    · exact pl_of (hw.1.1.resolve_left (by omega))
    · exact pl_of (hw.1.2.resolve_left (by omega))
    · exact pl_of (hw.2.resolve_left (by omega))
  · have hw := W.s s hs
    unfold switchOk at hw
    simp only [Bool.and_eq_true, Bool.not_eq_true'] at hw
    have := (List.any_eq_false.1 hw.2) z hz
    exact pl_of (by simpa using this)
  · unfold labL at hz
    split at hz
    · rename_i ho
      rw [List.mem_singleton.1 hz]
      have hi := W.i x hx
      have h20 : x.op = 20 := by simpa using ho
      unfold insErr at hi
      rw [h20] at hi
      have : opnd c (opK0 20).toNat x.a = true := by
        cases hh : opnd c (opK0 20).toNat x.a with
        | true => rfl
        | false => rw [hh] at hi; simp [show opIs 20 = true from rfl] at hi
      exact pl_of (show wiB x.a 0 ((c.instrs.length : Int) - 1) = true from this)
    · simp at hz
theorem jump_pl {c : CodeD} (W : Well c) {x : InstrD} (hx : x ∈ c.instrs) (ho : x.op = 47 ∨ x.op = 48) : Pl c.instrs.length x.a := by
  have hi := W.i x hx
  unfold insErr at hi
  rcases ho with ho | ho
  · rw [ho] at hi
    have : opnd c (opK0 47).toNat x.a = true := by
      cases hh : opnd c (opK0 47).toNat x.a with
      | true => rfl
      | false => rw [hh] at hi; simp [show opIs 47 = true from rfl] at hi
    exact pl_of (show wiB x.a 0 ((c.instrs.length : Int) - 1) = true from this)
  · rw [ho] at hi
    have : opnd c (opK0 48).toNat x.a = true := by
      cases hh : opnd c (opK0 48).toNat x.a with
      | true => rfl
      | false => rw [hh] at hi; simp [show opIs 48 = true from rfl] at hi
    exact pl_of (show wiB x.a 0 ((c.instrs.length : Int) - 1) = true from this)
theorem next_pl {c : CodeD} (W : Well c) {x : InstrD} (hx : x ∈ c.instrs) (k : Nat) : ∀ z ∈ nextL x k c.instrs.length, Pl c.instrs.length z := by
  intro z hz
  unfold nextL at hz
  split at hz
  · simp at hz
  · split at hz
    · rename_i h
      rw [List.mem_singleton.1 hz]
      exact jump_pl W hx (.inl (by simpa using h))
    · rw [mem_cs] at hz
      unfold nextRaw at hz
      rcases List.mem_append.1 hz with h | h
      · split at h
        · rename_i h48
          rw [List.mem_singleton.1 h]
          exact jump_pl W hx (.inr (by simpa using h48))
        · simp at h
      · split at h
        · rename_i hk
          rw [List.mem_singleton.1 h]
          exact ⟨k + 1, by omega, hk⟩
        · simp at h
end Go.Proofs.YtmfnholhhakgaaaGreatDoor
