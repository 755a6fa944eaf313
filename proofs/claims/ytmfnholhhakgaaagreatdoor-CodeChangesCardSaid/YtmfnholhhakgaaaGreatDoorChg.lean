/- CodeChanges: plain: what Check says of a well-formed code in which an instruction is changed. -/
import Derived.Test.YtmfnholhhakgaaaGreatDoorMhi
namespace Go.Proofs.YtmfnholhhakgaaaGreatDoor
open Go Go.Proofs Go.RowKit Go.Sort
/-- The code with instruction k changed to x. -/
def chg (c : CodeD) (k : Nat) (x : InstrD) : CodeD := { c with instrs := c.instrs.set k x }
theorem chg_len (c : CodeD) (k : Nat) (x : InstrD) : (chg c k x).instrs.length = c.instrs.length := by simp [chg]
theorem chg_opnd (c : CodeD) (k : Nat) (x : InstrD) (q : Nat) (n : Int) : opnd (chg c k x) q n = opnd c q n := by
  unfold opnd ownAt procTypeAt
  rw [chg_len]
  rfl
theorem chg_ins (c : CodeD) (k : Nat) (x y : InstrD) : insErr (chg c k x) y = insErr c y := by
  unfold insErr
  rw [chg_opnd, chg_opnd, chg_opnd]
theorem chg_tab (c : CodeD) (k : Nat) (x : InstrD) : tabErr (chg c k x) = tabErr c := by
  unfold tabErr tabAt tabFb
  rw [chg_len]
  rfl
theorem well_tab {c : CodeD} (W : Well c) : tabErr c = 0 := by
  have hi : ∀ {α : Type} {p : α → Bool} {l : List α}, (∀ x ∈ l, p x = true) → fb p l = -1 := fun h => fb_miss fun j y hy => h y (List.mem_of_getElem? hy)
  unfold tabErr tabAt tabFb
  rw [hi W.p, hi W.t, hi W.s, hi W.g, hi W.r, hi W.o]
  rfl
theorem chg_bad {c : CodeD} (W : Well c) {k : Nat} (hk : k < c.instrs.length) {x : InstrD} (h : insErr c x ≠ 0) : chkErr (chg c k x) false = insErr c x ∧ chkAt (chg c k x) false = k := by
  have := chk_hit (c := chg c k x) (k := k) (x := x) (e := insErr c x) (by rw [chg_tab]; exact well_tab W) (by simp [chg, hk]) (chg_ins c k x x) h (fun j y hj hy => by
    rw [chg_ins]
    unfold chg at hy
    rw [List.getElem?_set_ne (by omega)] at hy
    exact W.i y (List.mem_of_getElem? hy))
  exact this
theorem chg_good {c : CodeD} (W : Well c) {k : Nat} {x : InstrD} (h : insErr c x = 0) : chkErr (chg c k x) false = 0 ∧ chkAt (chg c k x) false = -1 :=
  chk_none (by rw [chg_tab]; exact well_tab W) fun j y hy => by
    rw [chg_ins]
    rcases List.mem_or_eq_of_mem_set (List.mem_of_getElem? hy) with h' | rfl
    · exact W.i y h'
    · exact h
theorem ins_13 (c : CodeD) (x : InstrD) : insErr c x = 0 ∨ insErr c x = 1 ∨ insErr c x = 3 := by
  unfold insErr
  split
  · exact .inr (.inl rfl)
  · split
    · exact .inl rfl
    · exact .inr (.inr rfl)
theorem tab_ok (n : Int) (h : opIs n = true) : (opName n).toList ≠ [] ∧ (opK0 n = 0 → opK1 n = 0) ∧ (opK1 n = 0 → opK2 n = 0) ∧ 0 ≤ opK0 n ∧ 0 ≤ opK1 n ∧ 0 ≤ opK2 n := by
  obtain ⟨h1, h2⟩ := (opIs_iff n).1 h
  obtain ⟨k, rfl⟩ : ∃ k : Nat, n = (k + 1 : Nat) := ⟨(n - 1).toNat, by omega⟩
  have hk : k < 53 := by omega
  have hall : (List.range 53).all (fun k => decide ((opName (k + 1 : Nat)).data.toList ≠ [] ∧ (opK0 (k + 1 : Nat) = 0 → opK1 (k + 1 : Nat) = 0) ∧ (opK1 (k + 1 : Nat) = 0 → opK2 (k + 1 : Nat) = 0) ∧ 0 ≤ opK0 (k + 1 : Nat) ∧ 0 ≤ opK1 (k + 1 : Nat) ∧ 0 ≤ opK2 (k + 1 : Nat))) = true := by decide +kernel
  have := of_decide_eq_true (List.all_eq_true.1 hall k (List.mem_range.2 hk))
  refine ⟨fun e => this.1 ?_, this.2⟩
  cases hh : opName ((k + 1 : Nat) : Int) with | mk d =>
  cases d with | mk d =>
  rw [hh] at e
  simpa [ByteArray.toList_mk] using e
theorem wi0 {n : Int} (h : wiB n 0 0 = true) : n = 0 := by unfold wiB at h; simp at h; omega
/-- The operands that have no meaning are 0. -/
theorem good_ops {c : CodeD} {x : InstrD} (h : insErr c x = 0) : opIs x.op = true ∧ (opName x.op).toList ≠ [] ∧ 0 ≤ manyN (opK0 x.op) (opK1 x.op) (opK2 x.op) ∧ manyN (opK0 x.op) (opK1 x.op) (opK2 x.op) ≤ 3 ∧
    (manyN (opK0 x.op) (opK1 x.op) (opK2 x.op) < 3 → x.c = 0) ∧ (manyN (opK0 x.op) (opK1 x.op) (opK2 x.op) < 2 → x.b = 0) ∧ (manyN (opK0 x.op) (opK1 x.op) (opK2 x.op) < 1 → x.a = 0) := by
  unfold insErr at h
  cases ho : opIs x.op with
  | false => rw [if_pos ho] at h; cases h
  | true =>
    rw [if_neg (by rw [ho]; simp)] at h
    obtain ⟨hn, h01, h12, g0, g1, g2⟩ := tab_ok x.op ho
    have hall : (opnd c (opK0 x.op).toNat x.a = true ∧ opnd c (opK1 x.op).toNat x.b = true) ∧ opnd c (opK2 x.op).toNat x.c = true := by
      cases hh : (opnd c (opK0 x.op).toNat x.a && opnd c (opK1 x.op).toNat x.b && opnd c (opK2 x.op).toNat x.c) with
      | false => rw [hh] at h; simp at h
      | true => simpa [Bool.and_eq_true] using hh
    obtain ⟨⟨o0, o1⟩, o2⟩ := hall
    have z0 : opK0 x.op = 0 → x.a = 0 := fun e => by rw [e] at o0; exact wi0 o0
    have z1 : opK1 x.op = 0 → x.b = 0 := fun e => by rw [e] at o1; exact wi0 o1
    have z2 : opK2 x.op = 0 → x.c = 0 := fun e => by rw [e] at o2; exact wi0 o2
    refine ⟨rfl, hn, ?_⟩
    unfold manyN
    by_cases e0 : opK0 x.op = 0
    · rw [if_pos e0]
      exact ⟨by omega, by omega, fun _ => z2 (h12 (h01 e0)), fun _ => z1 (h01 e0), fun _ => z0 e0⟩
    · rw [if_neg e0]
      by_cases e1 : opK1 x.op = 0
      · rw [if_pos e1]
        exact ⟨by omega, by omega, fun _ => z2 (h12 e1), fun _ => z1 e1, fun h => absurd h (by omega)⟩
      · rw [if_neg e1]
        by_cases e2 : opK2 x.op = 0
        · rw [if_pos e2]
          exact ⟨by omega, by omega, fun _ => z2 e2, fun h => absurd h (by omega), fun h => absurd h (by omega)⟩
        · rw [if_neg e2]
          exact ⟨by omega, by omega, fun h => absurd h (by omega), fun h => absurd h (by omega), fun h => absurd h (by omega)⟩
end Go.Proofs.YtmfnholhhakgaaaGreatDoor
