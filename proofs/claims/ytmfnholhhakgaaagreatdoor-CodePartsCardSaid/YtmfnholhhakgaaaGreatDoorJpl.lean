/- Joined codes: joining is associative; their entries, what is reached in them, what comes next. -/
import Derived.Test.YtmfnholhhakgaaaGreatDoorWjn
import Derived.Test.YtmfnholhhakgaaaGreatDoorEqm
import Derived.Test.YtmfnholhhakgaaaGreatDoorRch
namespace Go.Proofs.YtmfnholhhakgaaaGreatDoor
open Go Go.Proofs Go.RowKit Go.Sort
variable {h h2 z : CodeH} {a b c : CodeD}
theorem mv_mv (I J : Nat) (n : Int) : mv I (mv J n) = mv (I + J) n := by
  unfold mv
  repeat' split
  all_goals omega
theorem shiftN_add (A : Lens h a) (B : Lens h2 b) (Z : Lens z (joinD h a b)) (k : Int) : shiftN z k = shiftN h k + shiftN h2 k := by
  have e1 := Z.i; have e2 := Z.p; have e3 := Z.t; have e4 := Z.s; have e5 := Z.g; have e6 := Z.r; have e7 := Z.o
  simp only [joinD, List.length_append, List.length_map, ← A.i, ← A.p, ← A.t, ← A.s, ← A.g, ← A.r, ← A.o, ← B.i, ← B.p, ← B.t, ← B.s, ← B.g, ← B.r, ← B.o] at e1 e2 e3 e4 e5 e6 e7
  unfold shiftN
  repeat' split
  all_goals omega
theorem shI_shI (A : Lens h a) (B : Lens h2 b) (Z : Lens z (joinD h a b)) (x : InstrD) : shI h (shI h2 x) = shI z x := by
  unfold shI
  simp only [shiftN_add A B Z, InstrD.mk.injEq, true_and]
  refine ⟨?_, ?_, ?_⟩ <;> simp <;> omega
/-- Joining is associative. -/
theorem join_assoc (A : Lens h a) (B : Lens h2 b) (Z : Lens z (joinD h a b)) : joinD z (joinD h a b) c = joinD h a (joinD h2 b c) := by
  have hz : z.i.n = h.i.n + h2.i.n := by rw [Z.i, join_n A, B.i]
  unfold joinD
  simp only [List.map_append, List.map_map, List.append_assoc, CodeD.mk.injEq, and_true]
  refine ⟨?_, ?_, ?_, ?_⟩
  · congr 2
    exact List.map_congr_left fun x _ => (shI_shI A B Z x).symm
  · congr 2
    refine List.map_congr_left fun x _ => ?_
    simp only [Function.comp, shP, mv_mv, hz]
  · congr 2
    refine List.map_congr_left fun x _ => ?_
    simp only [Function.comp, shT, mv_mv, hz]
  · congr 2
    refine List.map_congr_left fun x _ => ?_
    simp only [Function.comp, List.map_map, hz]
    refine List.map_congr_left fun y _ => ?_
    simp only [Function.comp, mv_mv]
/-- What entries gathers behind the 0. -/
def entT (c : CodeD) : List Int := c.procs.flatMap (fun p => [p.entry]) ++ c.thunks.flatMap thunkL ++ c.switches.flatMap id ++ c.instrs.flatMap labL
theorem entRaw_eq (c : CodeD) : entRaw c = 0 :: entT c := by simp [entRaw, entT]
theorem lab_shift (x : InstrD) : labL (shI h x) = (labL x).map (· + (h.i.n : Int)) := by
  unfold labL
  have ho : (shI h x).op = x.op := rfl
  rw [ho]
  cases e : x.op == 20 with
  | false => rfl
  | true =>
    have e2 : x.op = 20 := by simpa using e
    have : (shI h x).a = x.a + (h.i.n : Int) := by
      show x.a + (shiftN h (opK0 x.op) : Nat) = _
      rw [e2]; rfl
    simp [this]
theorem thunk_shift (t : ThunkD) (I : Nat) : thunkL (shT I t) = (thunkL t).map (· + (I : Int)) := by
  have hm : ∀ n : Int, (0 ≤ mv I n) ↔ 0 ≤ n := fun n => by unfold mv; split <;> omega
  have hp : ∀ n : Int, 0 ≤ n → mv I n = n + I := fun n hn => mv_pos (by omega)
  unfold thunkL shT
  simp only [List.filter_cons, List.filter_nil, hm]
  repeat' split
  all_goals simp_all
theorem mem_entT_join (_L : Lens h a) (B : Well b) (w : Int) : w ∈ entT (joinD h a b) ↔ w ∈ entT a ∨ ∃ y ∈ entT b, w = y + (h.i.n : Int) := by
  have hp : ∀ p ∈ b.procs, mv h.i.n p.entry = p.entry + (h.i.n : Int) := fun p hp => by
    have := B.p p hp
    unfold procOk at this
    simp only [Bool.and_eq_true] at this
    have := pl_of this.1.1.1
    obtain ⟨e, he, _⟩ := this
    exact mv_pos (by omega)
  have hs : ∀ l ∈ b.switches, ∀ y ∈ l, mv h.i.n y = y + (h.i.n : Int) := fun l hl y hy => by
    have := B.s l hl
    unfold switchOk at this
    simp only [Bool.and_eq_true, Bool.not_eq_true'] at this
    have h1 := (List.any_eq_false.1 this.2) y hy
    obtain ⟨e, he, _⟩ := pl_of (show wiB y 0 ((b.instrs.length : Int) - 1) = true by simpa using h1)
    exact mv_pos (by omega)
  unfold entT joinD
  simp only [List.flatMap_append, List.flatMap_map, List.mem_append, List.mem_flatMap, List.mem_singleton, id, shP, thunk_shift, lab_shift, List.mem_map]
  constructor
  · rintro ((((⟨p, hp1, rfl⟩ | ⟨p, hp1, rfl⟩) | (h1 | ⟨t, ht, y, hy, rfl⟩)) | (h1 | ⟨l, hl, y, hy, rfl⟩)) | (h1 | ⟨x, hx, y, hy, rfl⟩))
    · exact .inl (.inl (.inl (.inl ⟨p, hp1, rfl⟩)))
    · exact .inr ⟨_, .inl (.inl (.inl ⟨p, hp1, rfl⟩)), hp p hp1⟩
    · exact .inl (.inl (.inl (.inr h1)))
    · exact .inr ⟨_, .inl (.inl (.inr ⟨t, ht, hy⟩)), rfl⟩
    · exact .inl (.inl (.inr h1))
    · exact .inr ⟨_, .inl (.inr ⟨l, hl, hy⟩), hs l hl y hy⟩
    · exact .inl (.inr h1)
    · exact .inr ⟨_, .inr ⟨x, hx, hy⟩, rfl⟩
  · rintro ((((h1 | h1) | h1) | h1) | ⟨y, (((⟨p, hp1, rfl⟩ | ⟨t, ht, hy⟩) | ⟨l, hl, hy⟩) | ⟨x, hx, hy⟩), rfl⟩)
    · exact .inl (.inl (.inl (.inl h1)))
    · exact .inl (.inl (.inr (.inl h1)))
    · exact .inl (.inr (.inl h1))
    · exact .inr (.inl h1)
    · exact .inl (.inl (.inl (.inr ⟨p, hp1, (hp p hp1).symm⟩)))
    · exact .inl (.inl (.inr (.inr ⟨t, ht, y, hy, rfl⟩)))
    · exact .inl (.inr (.inr ⟨l, hl, y, hy, hs l hl y hy⟩))
    · exact .inr (.inr ⟨x, hx, y, hy, rfl⟩)
theorem ent_mem (c : CodeD) (w : Int) : w ∈ entL c ↔ w = 0 ∨ w ∈ entT c := by
  unfold entL
  rw [mem_cs, entRaw_eq, List.mem_cons]
theorem ent_pl (W : Well c) (h0 : 0 < c.instrs.length) {w : Int} (hw : w ∈ entL c) : Pl c.instrs.length w := ent_raw W h0 w ((mem_cs _ _).1 hw)
theorem ent_head (W : Well c) (h0 : 0 < c.instrs.length) : ∃ m, entL c = 0 :: m ∧ ∀ y ∈ m, 0 < y := by
  have h1 : (0 : Int) ∈ entL c := (ent_mem c 0).2 (.inl rfl)
  have h2 := cs_lt (entRaw c)
  have h3 : ∀ y ∈ entL c, Pl c.instrs.length y := fun y hy => ent_pl W h0 hy
  change (entL c).Pairwise (· < ·) at h2
  cases he : entL c with
  | nil => rw [he] at h1; simp at h1
  | cons x m =>
    rw [he] at h1 h2 h3
    rw [List.pairwise_cons] at h2
    obtain ⟨e, rfl, _⟩ := h3 x (by simp)
    have hx : (e : Int) = 0 := by
      rcases List.mem_cons.1 h1 with e1 | e1
      · exact e1.symm
      · have := h2.1 0 e1; omega
    rw [hx]
    exact ⟨m, rfl, fun y hy => by have := h2.1 y hy; omega⟩
/-- The entries of a joined code: those of its parts, perhaps without the second one's first. -/
theorem ent_join (L : Lens h a) (A : Well a) (B : Well b) (ha : 0 < a.instrs.length) (hb : 0 < b.instrs.length) :
    ∃ m, entL b = 0 :: m ∧ (entL (joinD h a b) = entL a ++ (entL b).map (· + (h.i.n : Int)) ∨ entL (joinD h a b) = entL a ++ m.map (· + (h.i.n : Int))) := by
  obtain ⟨m, hm, hp⟩ := ent_head B hb
  refine ⟨m, hm, ?_⟩
  have hap : ∀ y ∈ entL a, y < (h.i.n : Int) := fun y hy => by
    obtain ⟨e, rfl, h1⟩ := ent_pl A ha hy
    have := L.i
    omega
  have hbp : ∀ y ∈ entL b, 0 ≤ y := fun y hy => by
    obtain ⟨e, rfl, _⟩ := ent_pl B hb hy
    omega
  have hasc : ∀ l : List Int, l.Pairwise (· < ·) → (∀ y ∈ l, 0 ≤ y) → (entL a ++ l.map (· + (h.i.n : Int))).Pairwise (· < ·) := fun l hl h0 => by
    rw [List.pairwise_append]
    refine ⟨cs_lt _, ?_, fun x hx y hy => ?_⟩
    · rw [List.pairwise_map]
      exact hl.imp fun h => by omega
    · obtain ⟨v, hv, rfl⟩ := List.mem_map.1 hy
      have h1 := hap x hx
      have h2 := h0 v hv
      omega
  have hlb : (entL b).Pairwise (· < ·) := cs_lt _
  by_cases h0 : (0 : Int) ∈ entT b
  · refine .inl (asc_ext (cs_lt _) (hasc _ hlb hbp) fun w => ?_)
    change w ∈ entL (joinD h a b) ↔ _
    rw [ent_mem, mem_entT_join L B, List.mem_append, ent_mem, List.mem_map]
    constructor
    · rintro (e | e | ⟨y, hy, rfl⟩)
      · exact .inl (.inl e)
      · exact .inl (.inr e)
      · exact .inr ⟨y, (ent_mem _ _).2 (.inr hy), rfl⟩
    · rintro ((e | e) | ⟨y, hy, rfl⟩)
      · exact .inl e
      · exact .inr (.inl e)
      · rcases (ent_mem _ _).1 hy with rfl | hy
        · exact .inr (.inr ⟨0, h0, rfl⟩)
        · exact .inr (.inr ⟨y, hy, rfl⟩)
  · have hlm : m.Pairwise (· < ·) := by rw [hm, List.pairwise_cons] at hlb; exact hlb.2
    have hmm : ∀ y, y ∈ m ↔ y ∈ entT b := fun y => by
      have h1 := ent_mem b y
      rw [hm, List.mem_cons] at h1
      constructor
      · intro hy
        have := hp y hy
        rcases h1.1 (.inr hy) with e | e
        · omega
        · exact e
      · intro hy
        rcases h1.2 (.inr hy) with rfl | e
        · exact absurd hy h0
        · exact e
    refine .inr (asc_ext (cs_lt _) (hasc _ hlm fun y hy => by have := hp y hy; omega) fun w => ?_)
    change w ∈ entL (joinD h a b) ↔ _
    rw [ent_mem, mem_entT_join L B, List.mem_append, ent_mem, List.mem_map]
    constructor
    · rintro (e | e | ⟨y, hy, rfl⟩)
      · exact .inl (.inl e)
      · exact .inl (.inr e)
      · exact .inr ⟨y, (hmm y).2 hy, rfl⟩
    · rintro ((e | e) | ⟨y, hy, rfl⟩)
      · exact .inl e
      · exact .inr (.inl e)
      · exact .inr (.inr ⟨y, (hmm y).1 hy, rfl⟩)
theorem next_mem (x : InstrD) (k n : Nat) (w : Int) : w ∈ nextL x k n ↔ stopB x.op = false ∧ ((x.op = 47 ∧ w = x.a) ∨ (x.op ≠ 47 ∧ ((x.op = 48 ∧ w = x.a) ∨ (k + 1 < n ∧ w = (k : Int) + 1)))) := by
  unfold nextL
  cases h1 : stopB x.op with
  | true => simp
  | false =>
    simp only [Bool.false_eq_true, if_false, true_and]
    by_cases h2 : x.op = 47
    · simp [h2]
    · rw [if_neg (by simpa using h2), mem_cs]
      unfold nextRaw
      by_cases h3 : x.op = 48 <;> by_cases h4 : k + 1 < n <;> simp [h2, h3, h4]
theorem join_left (L : Lens h a) {k : Nat} (hk : k < h.i.n) : (joinD h a b).instrs[k]? = a.instrs[k]? := by
  unfold joinD
  exact List.getElem?_append_left (by rw [← L.i]; exact hk)
theorem join_right (L : Lens h a) (k : Nat) : (joinD h a b).instrs[h.i.n + k]? = (b.instrs[k]?).map (shI h) := by
  unfold joinD
  rw [List.getElem?_append_right (by rw [← L.i]; omega), L.i, Nat.add_sub_cancel_left, List.getElem?_map]
/-- What follows an instruction of the first part: what did, or the second part's first one. -/
theorem nx_left (L : Lens h a) (_A : Well a) {k : Nat} (hk : k < h.i.n) {w : Int} (hw : w ∈ nxL (joinD h a b) k) : w ∈ nxL a k ∨ w = (h.i.n : Int) := by
  obtain ⟨x, hx⟩ : ∃ x, a.instrs[k]? = some x := ⟨_, List.getElem?_eq_getElem (by rw [← L.i]; exact hk)⟩
  rw [nxL_at (by rw [join_left L hk]; exact hx), join_n L, next_mem] at hw
  rw [nxL_at hx, next_mem, ← L.i]
  obtain ⟨h1, h2⟩ := hw
  by_cases h3 : k + 1 < h.i.n
  · exact .inl ⟨h1, h2.imp id (And.imp id (Or.imp id (And.imp (fun _ => h3) id)))⟩
  · rcases h2 with h2 | ⟨h2, h4 | ⟨_, h4⟩⟩
    · exact .inl ⟨h1, .inl h2⟩
    · exact .inl ⟨h1, .inr ⟨h2, .inl h4⟩⟩
    · exact .inr (by omega)
theorem nx_left_of (L : Lens h a) {k : Nat} (hk : k < h.i.n) {w : Int} (hw : w ∈ nxL a k) : w ∈ nxL (joinD h a b) k := by
  obtain ⟨x, hx⟩ : ∃ x, a.instrs[k]? = some x := ⟨_, List.getElem?_eq_getElem (by rw [← L.i]; exact hk)⟩
  rw [nxL_at hx, next_mem, ← L.i] at hw
  rw [nxL_at (by rw [join_left L hk]; exact hx), join_n L, next_mem]
  exact ⟨hw.1, hw.2.imp id (And.imp id (Or.imp id (And.imp (fun h => by omega) id)))⟩
theorem nx_right (L : Lens h a) {k : Nat} (hk : k < b.instrs.length) : nxL (joinD h a b) (h.i.n + k) = (nxL b k).map (· + (h.i.n : Int)) := by
  obtain ⟨x, hx⟩ : ∃ x, b.instrs[k]? = some x := ⟨_, List.getElem?_eq_getElem hk⟩
  rw [nxL_at hx, nxL_at (x := shI h x) (by rw [join_right L, hx]; rfl), join_n L]
  exact next_shift hk
theorem nxL_lt {k : Nat} {w : Int} (hw : w ∈ nxL c k) : k < c.instrs.length := by
  unfold nxL at hw
  cases hx : c.instrs[k]? with
  | none => rw [hx] at hw; simp at hw
  | some x => exact (List.getElem?_eq_some_iff.1 hx).1
theorem nxL_pl (W : Well c) {k : Nat} {w : Int} (hw : w ∈ nxL c k) : Pl c.instrs.length w := by
  obtain ⟨x, hx⟩ : ∃ x, c.instrs[k]? = some x := ⟨_, List.getElem?_eq_getElem (nxL_lt hw)⟩
  rw [nxL_at hx] at hw
  exact next_pl W (List.mem_of_getElem? hx) k w hw
theorem mem_ent_left (L : Lens h a) (B : Well b) {w : Int} (hw : w ∈ entL a) : w ∈ entL (joinD h a b) := by
  rw [ent_mem, mem_entT_join L B]
  exact ((ent_mem _ _).1 hw).imp id .inl
/-- What is reached in a joined code was reached in its part. -/
theorem rch_parts (L : Lens h a) (A : Well a) (B : Well b) (ha : 0 < h.i.n) (hb : 0 < b.instrs.length) {j : Nat} (hj : Rch (joinD h a b) j) : (j < h.i.n → Rch a j) ∧ (h.i.n ≤ j → Rch b (j - h.i.n)) := by
  have h0 : Rch b 0 := .ent 0 ((ent_mem _ _).2 (.inl rfl))
  induction hj with
  | ent k hk =>
    rcases (ent_mem _ _).1 hk with e | e
    · refine ⟨fun _ => .ent k ((ent_mem _ _).2 (.inl e)), fun h1 => by omega⟩
    · rcases (mem_entT_join L B _).1 e with e | ⟨y, hy, e⟩
      · refine ⟨fun _ => .ent k ((ent_mem _ _).2 (.inr e)), fun h1 => ?_⟩
        obtain ⟨i, e2, hi⟩ := ent_pl A (by rw [← L.i]; exact ha) ((ent_mem _ _).2 (.inr e))
        have := L.i
        omega
      · refine ⟨fun h1 => ?_, fun h1 => .ent _ ?_⟩
        · obtain ⟨i, rfl, _⟩ := ent_pl B hb ((ent_mem _ _).2 (.inr hy))
          omega
        · rw [show ((k - h.i.n : Nat) : Int) = y by omega]
          exact (ent_mem _ _).2 (.inr hy)
  | step k j _ hj ih =>
    by_cases hk : k < h.i.n
    · rcases nx_left L A hk hj with e | e
      · refine ⟨fun _ => .step k j (ih.1 hk) e, fun h1 => ?_⟩
        obtain ⟨i, e2, hi⟩ := nxL_pl A e
        have := L.i
        omega
      · refine ⟨fun h1 => by omega, fun h1 => ?_⟩
        rw [show j - h.i.n = 0 by omega]
        exact h0
    · have hkb := nxL_lt hj
      rw [join_n L] at hkb
      rw [show k = h.i.n + (k - h.i.n) by omega, nx_right L (by omega)] at hj
      obtain ⟨y, hy, e⟩ := List.mem_map.1 hj
      obtain ⟨i, rfl, _⟩ := nxL_pl B hy
      refine ⟨fun h1 => by omega, fun h1 => .step _ _ (ih.2 (by omega)) ?_⟩
      rw [show ((j - h.i.n : Nat) : Int) = i by omega]
      exact hy
theorem rch_left_of (L : Lens h a) (B : Well b) {j : Nat} (hj : Rch a j) : Rch (joinD h a b) j := by
  induction hj with
  | ent k hk => exact .ent k (mem_ent_left L B hk)
  | step k j _ hj ih => exact .step k j ih (nx_left_of L (by have := nxL_lt hj; rw [← L.i] at this; exact this) hj)
theorem rch_right_of (L : Lens h a) (B : Well b) (h0 : Rch (joinD h a b) h.i.n) {j : Nat} (hj : Rch b j) : Rch (joinD h a b) (h.i.n + j) := by
  induction hj with
  | ent k hk =>
    rcases (ent_mem _ _).1 hk with e | e
    · rw [show k = 0 by omega]
      exact h0
    · refine .ent _ ((ent_mem _ _).2 (.inr ((mem_entT_join L B _).2 (.inr ⟨k, e, by omega⟩))))
  | step k j _ hj ih =>
    refine .step _ _ ih ?_
    rw [nx_right L (nxL_lt hj), List.mem_map]
    exact ⟨j, hj, by omega⟩
end Go.Proofs.YtmfnholhhakgaaaGreatDoor
