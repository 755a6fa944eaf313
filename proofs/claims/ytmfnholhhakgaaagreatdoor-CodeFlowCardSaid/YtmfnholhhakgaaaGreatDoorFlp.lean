/- CodeFlow: plain: the flags that it gathers are those of Reached; a halt in front of a code. -/
import Derived.Test.YtmfnholhhakgaaaGreatDoorEqm
import Derived.Test.YtmfnholhhakgaaaGreatDoorRfe
import Derived.Test.YtmfnholhhakgaaaGreatDoorSmb
namespace Go.Proofs.YtmfnholhhakgaaaGreatDoor
open Go Go.Proofs Go.RowKit Go.Sort
open Classical
set_option maxRecDepth 100000
/-- What follows the reached ones among the first k places. -/
noncomputable def folL (c : CodeD) (k : Nat) : List Int := (List.range k).flatMap fun i => if Rch c i then nxL c i else []
theorem folL_succ (c : CodeD) (k : Nat) : folL c (k + 1) = folL c k ++ (if Rch c k then nxL c k else []) := by
  unfold folL
  rw [List.range_succ, List.flatMap_append]
  simp
theorem nxL_pl {c : CodeD} (W : Well c) (k : Nat) : ∀ z ∈ nxL c k, Pl c.instrs.length z := by
  intro z hz
  unfold nxL at hz
  split at hz
  · rename_i x hx
    exact next_pl W (List.mem_of_getElem? hx) k z hz
  · simp at hz
theorem rch_lt {c : CodeD} (W : Well c) (h0 : 0 < c.instrs.length) {k : Nat} (h : Rch c k) : k < c.instrs.length := by
  cases h with
  | ent k h =>
    obtain ⟨j, hj, hjn⟩ := ent_raw W h0 k ((mem_cs _ _).1 h)
    omega
  | step j k h hj =>
    obtain ⟨i, hi, hin⟩ := nxL_pl W j k hj
    omega
theorem flow_rch {c : CodeD} (W : Well c) (h0 : 0 < c.instrs.length) (j : Nat) : (j : Int) ∈ entL c ++ folL c c.instrs.length ↔ Rch c j := by
  unfold folL
  simp only [List.mem_append, List.mem_flatMap, List.mem_range]
  constructor
  · rintro (h | ⟨i, hi, h⟩)
    · exact .ent j h
    · split at h
      · rename_i hr
        exact .step i j hr h
      · simp at h
  · intro h
    cases h with
    | ent k h => exact .inl h
    | step i k h hj => exact .inr ⟨i, rch_lt W h0 h, by rw [if_pos h]; exact hj⟩
theorem FI.flow {c : CodeD} (W : Well c) (h0 : 0 < c.instrs.length) {bs : List Bool} (H : FI c.instrs.length bs (entL c ++ folL c c.instrs.length)) : bs = rchL c := by
  apply List.ext_getElem?
  intro i
  unfold rchL
  rw [List.getElem?_map]
  by_cases hi : i < c.instrs.length
  · rw [List.getElem?_range hi]
    have hb : bs[i]? = some (bs[i]'(by rw [H.l]; exact hi)) := List.getElem?_eq_getElem _
    have hf := H.f i
    rw [flow_rch W h0] at hf
    rw [hb] at hf ⊢
    simp only [Option.map_some, Option.some.injEq] at hf ⊢
    cases hv : bs[i]'(by rw [H.l]; exact hi) with
    | true => rw [hv] at hf; exact (decide_eq_true (hf.1 rfl).2).symm
    | false =>
      rw [hv] at hf
      refine (decide_eq_false fun hr => ?_).symm
      have := hf.2 ⟨hi, hr⟩
      cases this
  · rw [List.getElem?_eq_none (by rw [H.l]; omega), List.getElem?_eq_none (by simp; omega)]
    rfl
theorem FI.setB {n : Nat} {bs : List Bool} {L M : List Int} (H : FI n bs L) {j : Nat} (hj : j < n) {cj b : Bool} (hc : bs[j]? = some cj) (hM : M = if b then L ++ [(j : Int)] else L) : FI n (bs.set j (cj || b)) M := by
  subst hM
  cases b with
  | true => rw [Bool.or_true, if_pos rfl]; exact H.push hj
  | false =>
    rw [Bool.or_false, if_neg (by simp)]
    have : bs.set j cj = bs := by
      obtain ⟨h1, h2⟩ := List.getElem?_eq_some_iff.1 hc
      rw [← h2, List.set_getElem_self]
    rw [this]
    exact H
theorem EV.setB {N G n : Nat} {h : CodeH} {w wr : World} {bs : List Bool} (H : EV N G h w wr n bs) (k : Nat) (b : Bool) : EV N G h w (wr.setCell ⟨G, k, none⟩ (.bool b)) n (bs.set k b) := by
  obtain ⟨h1, _⟩ := H.o.stored k (.bool b)
  exact { x := H.x.to ((Below.refl _ _).setCell H.g _), g := H.g, z := by simpa using H.z, o := by rw [List.map_set]; exact h1 }
theorem EV.below {N G n : Nat} {h : CodeH} {w wr wx : World} {bs : List Bool} (H : EV N G h w wr n bs) (hb : Below wr.heap.size wr wx) : EV N G h w wx n bs := H.to (hb.mono H.z)
theorem EV.drewN {N G n : Nat} {h : CodeH} {w wr : World} {bs : List Bool} (H : EV N G h w wr n bs) (q : Nat) : EV N G h w (wr.drewN q) n bs := H.to (below_drewN (Below.refl _ _) q)
theorem EV.cell {N G n k : Nat} {h : CodeH} {w wr : World} {bs : List Bool} (H : EV N G h w wr n bs) {b : Bool} (hb : bs[k]? = some b) : wr.cell? ⟨G, k, none⟩ = some (.bool b) := by
  have hk := (List.getElem?_eq_some_iff.1 hb).1
  have hl : (bs.map Value.bool).length = n := by have := H.o.1; simpa using this
  rw [List.length_map] at hl
  rw [H.o.cellAt k (by omega), List.getElem?_map, hb]
  rfl
theorem rchL_at {c : CodeD} {k : Nat} (hk : k < c.instrs.length) : (rchL c)[k]? = some (decide (Rch c k)) := by
  unfold rchL
  rw [List.getElem?_map, List.getElem?_range hk]
  rfl
/-- The code of one halt. -/
def haltD : CodeD := ⟨[⟨1, 0, 0, 0⟩], [], [], [], [], [], []⟩
def haltH (g : Nat) : CodeH := ⟨⟨some ⟨g, 0, none⟩, 1, 1⟩, ⟨none, 0, 0⟩, ⟨none, 0, 0⟩, ⟨none, 0, 0⟩, ⟨none, 0, 0⟩, ⟨none, 0, 0⟩, ⟨none, 0, 0⟩⟩
theorem halt_fine0 : fineB haltD false = true := by kernel_rfl
theorem halt_fine (g : Nat) : fineB haltD (largeB (haltH g)) = true := halt_fine0
theorem halt_well : Well haltD := (fine_well (halt_fine 0)).2
theorem halt_lens (g : Nat) : Lens (haltH g) haltD := ⟨rfl, rfl, rfl, rfl, rfl, rfl, rfl⟩
theorem halt_at {w : World} {g : Nat} (hm : w.heap[g]? = some (.cells #[.int .i64 1, .int .i64 0, .int .i64 0, .int .i64 0] 52 (0, 0))) : CodeAt w w.heap.size (haltH g) haltD := by
  have hlt := (Array.getElem?_eq_some_iff.1 hm).1
  have nil : ∀ s, Reads w w.heap.size s none 0 [] := fun s => ⟨by simp, fun h => absurd h (by omega)⟩
  have small : ∀ n, n ≤ 1 → Small n := fun n h => by unfold Small; omega
  have hi : Reads w w.heap.size 4 (some ⟨g, 0, none⟩) 1 (haltD.instrs.flatMap InstrD.cells) := by
    refine ⟨rfl, fun _ => ⟨_, rfl, hlt, fun j u hu => ?_⟩⟩
    have e : (⟨g, 0, none⟩ : Addr).add j = ⟨g, j, none⟩ := by unfold Addr.add; split <;> simp_all
    rw [e, cell_of_row w g j _ 52 (0, 0) hm]
    rw [← Array.getElem?_toList]
    exact hu
  exact
  { i := hi
    p := nil 5
    t := nil 3
    s := ⟨[], nil 1, rfl, fun k x l hx _ => by simp at hx⟩
    g := nil 1
    r := nil 2
    o := nil 1
    ni := ⟨rfl, small _ (Nat.le_refl _)⟩
    np := ⟨rfl, small _ (Nat.zero_le _)⟩
    nt := ⟨rfl, small _ (Nat.zero_le _)⟩
    ns := ⟨rfl, small _ (Nat.zero_le _)⟩
    ng := ⟨rfl, small _ (Nat.zero_le _)⟩
    nr := ⟨rfl, small _ (Nat.zero_le _)⟩
    no := ⟨rfl, small _ (Nat.zero_le _)⟩
    zs := fun s hs => by simp [haltD] at hs
    wr := fun x hx => by simp [haltD] at hx }
theorem small_halt {h : CodeH} {c : CodeD} (_L : Lens h c) (hs : smallB c = true) (_h0 : 0 < h.i.n) (g : Nat) : largeD (joinD (haltH g) haltD c) = false := by
  unfold smallB at hs
  simp only [Bool.and_eq_true, decide_eq_true_eq] at hs
  obtain ⟨⟨⟨⟨⟨⟨⟨⟨_, _⟩, h1⟩, h2⟩, h3⟩, h4⟩, h5⟩, h6⟩, h7⟩ := hs
  unfold largeD joinD haltD
  simp only [List.length_append, List.length_map, List.length_cons, List.length_nil, decide_eq_false_iff_not]
  omega
theorem halt_join {g : Nat} {c : CodeD} {w w' : World} {e : Ending} (hl : ∀ g, largeD (joinD (haltH g) haltD c) = false) (hJ : JoinPost (haltH g) haltD c w e w') :
    ∃ z : CodeH, e = .returned (.tuple #[z.v, .int .i64 0]) ∧ CodeAt w' w'.heap.size z (joinD (haltH g) haltD c) ∧ Below w.heap.size w w' := by
  obtain ⟨hb, ⟨h1, _⟩ | ⟨_, z, he, hz⟩⟩ := hJ
  · rw [hl g] at h1; cases h1
  · exact ⟨z, he, hz, hb⟩
end Go.Proofs.YtmfnholhhakgaaaGreatDoor
