/- Two well-formed codes joined are well-formed; the places behind a place, and the entries, of a joined code. Plain. -/
import Derived.Test.YtmfnholhhakgaaaGreatDoorMhl
import Derived.Test.YtmfnholhhakgaaaGreatDoorPlc
namespace Go.Proofs.YtmfnholhhakgaaaGreatDoor
open Go Go.Proofs Go.RowKit Go.Sort
/-- The header's lengths are the code's. -/
structure Lens (h : CodeH) (a : CodeD) : Prop where
  i : h.i.n = a.instrs.length
  p : h.p.n = a.procs.length
  t : h.t.n = a.thunks.length
  s : h.s.n = a.switches.length
  g : h.g.n = a.strings.length
  r : h.r.n = a.reals.length
  o : h.o.n = a.owns.length
theorem CodeAt.lens {w : World} {B : Nat} {h : CodeH} {a : CodeD} (H : CodeAt w B h a) : Lens h a := ⟨H.ni.1, H.np.1, H.nt.1, H.ns.1, H.ng.1, H.nr.1, H.no.1⟩
theorem wi_mono {n lo hi hi' : Int} (h : wiB n lo hi = true) (hh : hi ≤ hi') : wiB n lo hi' = true := by unfold wiB at *; simp at *; omega
theorem wi_shift {n lo hi d hi' : Int} (h : wiB n lo hi = true) (hd : lo ≤ n + d) (hh : hi + d ≤ hi') : wiB (n + d) lo hi' = true := by unfold wiB at *; simp at *; omega
variable {h : CodeH} {a b : CodeD}
theorem join_n (L : Lens h a) : (joinD h a b).instrs.length = h.i.n + b.instrs.length := by simp [joinD, L.i]
theorem mv_place {I : Nat} {m : Nat} {n : Int} (hn : wiB n 0 ((m : Int) - 1) = true) : wiB (mv I n) 0 (((I + m : Nat) : Int) - 1) = true := by
  have := wi_bounds hn
  rw [mv_pos (by omega)]
  unfold wiB
  simp
  omega
theorem mv_placeOk {I : Nat} {m : Nat} {n : Int} (hn : placeOk m n = true) : placeOk (I + m) (mv I n) = true := by
  unfold placeOk at *
  simp only [Bool.or_eq_true, decide_eq_true_eq] at *
  rcases hn with rfl | hn
  · left; rfl
  · right; exact mv_place hn
theorem procOk_mono {I J : Nat} {p : ProcD} (h : procOk I p = true) (hIJ : I ≤ J) : procOk J p = true := by
  unfold procOk at *
  simp only [Bool.and_eq_true] at *
  exact ⟨⟨⟨wi_mono h.1.1.1 (by omega), h.1.1.2⟩, h.1.2⟩, h.2⟩
theorem placeOk_mono {I J : Nat} {n : Int} (h : placeOk I n = true) (hIJ : I ≤ J) : placeOk J n = true := by
  unfold placeOk at *
  simp only [Bool.or_eq_true] at *
  exact h.imp id fun h => wi_mono h (by omega)
theorem thunkOk_mono {I J : Nat} {t : ThunkD} (h : thunkOk I t = true) (hIJ : I ≤ J) : thunkOk J t = true := by
  unfold thunkOk at *
  simp only [Bool.and_eq_true] at *
  exact ⟨⟨placeOk_mono h.1.1 hIJ, placeOk_mono h.1.2 hIJ⟩, placeOk_mono h.2 hIJ⟩
theorem switchOk_iff {I : Nat} {l : List Int} : switchOk I l = true ↔ wiB l.length 1 2000 = true ∧ ∀ z ∈ l, wiB z 0 ((I : Int) - 1) = true := by
  unfold switchOk
  simp only [Bool.and_eq_true, Bool.not_eq_true', List.any_eq_false]
  constructor
  · rintro ⟨h1, h2⟩
    exact ⟨h1, fun z hz => by have := h2 z hz; simpa using this⟩
  · rintro ⟨h1, h2⟩
    exact ⟨h1, fun z hz => by simp [h2 z hz]⟩
/-- An operand of the first code's is one of the joined code's. -/
theorem opnd_left (_L : Lens h a) (q : Nat) (n : Int) (ho : opnd a q n = true) : opnd (joinD h a b) q n = true := by
  have hlen : ∀ {α : Type} (x y : List α), (x.length : Int) - 1 ≤ ((x ++ y).length : Int) - 1 := fun x y => by simp; omega
  match q with
  | 0 | 1 | 3 | 5 | 6 | 7 | 8 | 9 | 10 | 18 | 19 | 20 | 21 | 22 | 23 => exact ho
  | 2 => exact wi_mono ho (hlen _ _)
  | 4 => exact wi_mono ho (hlen _ _)
  | 13 => exact wi_mono ho (hlen _ _)
  | 14 => exact wi_mono ho (hlen _ _)
  | 16 => exact wi_mono ho (hlen _ _)
  | 17 => exact wi_mono ho (hlen _ _)
  | 11 =>
    simp only [opnd, Bool.and_eq_true] at ho ⊢
    have hb := wi_bounds ho.1
    refine ⟨wi_mono ho.1 (hlen _ _), ?_⟩
    have : ownAt (joinD h a b) n = ownAt a n := by unfold ownAt joinD; rw [List.getElem?_append_left (by omega)]
    rw [this]; exact ho.2
  | 12 =>
    simp only [opnd, Bool.and_eq_true] at ho ⊢
    have hb := wi_bounds ho.1
    refine ⟨wi_mono ho.1 (hlen _ _), ?_⟩
    have : ownAt (joinD h a b) n = ownAt a n := by unfold ownAt joinD; rw [List.getElem?_append_left (by omega)]
    rw [this]; exact ho.2
  | 15 =>
    simp only [opnd, Bool.and_eq_true] at ho ⊢
    have hb := wi_bounds ho.1
    refine ⟨wi_mono ho.1 (hlen _ _), ?_⟩
    have : procTypeAt (joinD h a b) n = procTypeAt a n := by unfold procTypeAt joinD; rw [List.getElem?_append_left (by omega)]
    rw [this]; exact ho.2
  | q + 24 => exact ho
/-- An operand of the second code's, moved, is one of the joined code's. -/
theorem opnd_right (L : Lens h a) (q : Nat) (n : Int) (ho : opnd b q n = true) : opnd (joinD h a b) q (n + (shiftN h (q : Int) : Nat)) = true := by
  have key : ∀ {α : Type} (x y : List α) (d : Nat), d = x.length → wiB n 0 ((y.length : Int) - 1) = true → wiB (n + (d : Nat)) 0 (((x ++ y).length : Int) - 1) = true := fun x y d hd hw => by
    have := wi_bounds hw
    unfold wiB
    simp
    omega
  have zero : ∀ m : Int, m + ((0 : Nat) : Int) = m := fun m => by simp
  match q with
  | 0 => exact (show opnd b 0 (n + ((0 : Nat) : Int)) = true by simpa using ho)
  | 1 => exact (show opnd b 1 (n + ((0 : Nat) : Int)) = true by simpa using ho)
  | 3 => exact (show opnd b 3 (n + ((0 : Nat) : Int)) = true by simpa using ho)
  | 5 => exact (show opnd b 5 (n + ((0 : Nat) : Int)) = true by simpa using ho)
  | 6 => exact (show opnd b 6 (n + ((0 : Nat) : Int)) = true by simpa using ho)
  | 7 => exact (show opnd b 7 (n + ((0 : Nat) : Int)) = true by simpa using ho)
  | 8 => exact (show opnd b 8 (n + ((0 : Nat) : Int)) = true by simpa using ho)
  | 9 => exact (show opnd b 9 (n + ((0 : Nat) : Int)) = true by simpa using ho)
  | 10 => exact (show opnd b 10 (n + ((0 : Nat) : Int)) = true by simpa using ho)
  | 18 => exact (show opnd b 18 (n + ((0 : Nat) : Int)) = true by simpa using ho)
  | 19 => exact (show opnd b 19 (n + ((0 : Nat) : Int)) = true by simpa using ho)
  | 20 => exact (show opnd b 20 (n + ((0 : Nat) : Int)) = true by simpa using ho)
  | 21 => exact (show opnd b 21 (n + ((0 : Nat) : Int)) = true by simpa using ho)
  | 22 => exact (show opnd b 22 (n + ((0 : Nat) : Int)) = true by simpa using ho)
  | 23 => exact (show opnd b 23 (n + ((0 : Nat) : Int)) = true by simpa using ho)
  | 2 => exact key a.reals b.reals h.r.n L.r ho
  | 4 => exact key a.strings b.strings h.g.n L.g ho
  | 13 => exact key a.thunks (b.thunks.map (shT h.i.n)) h.t.n L.t (by simpa [opnd] using ho)
  | 14 => exact key a.procs (b.procs.map (shP h.i.n)) h.p.n L.p (by simpa [opnd] using ho)
  | 16 => exact key a.instrs (b.instrs.map (shI h)) h.i.n L.i (by simpa [opnd] using ho)
  | 17 => exact key a.switches (b.switches.map (fun l => l.map (mv h.i.n))) h.s.n L.s (by simpa [opnd] using ho)
  | 11 =>
    simp only [opnd, Bool.and_eq_true] at ho ⊢
    have hb := wi_bounds ho.1
    refine ⟨key a.owns b.owns h.o.n L.o ho.1, ?_⟩
    have : ownAt (joinD h a b) (n + (shiftN h ((11 : Nat) : Int) : Nat)) = ownAt b n := by
      show ownAt (joinD h a b) (n + (h.o.n : Nat)) = ownAt b n
      unfold ownAt joinD
      have e : (n + ((h.o.n : Nat) : Int)).toNat = a.owns.length + n.toNat := by have := L.o; omega
      rw [e, List.getElem?_append_right (by omega), Nat.add_sub_cancel_left]
    rw [this]; exact ho.2
  | 12 =>
    simp only [opnd, Bool.and_eq_true] at ho ⊢
    have hb := wi_bounds ho.1
    refine ⟨key a.owns b.owns h.o.n L.o ho.1, ?_⟩
    have : ownAt (joinD h a b) (n + (shiftN h ((12 : Nat) : Int) : Nat)) = ownAt b n := by
      show ownAt (joinD h a b) (n + (h.o.n : Nat)) = ownAt b n
      unfold ownAt joinD
      have e : (n + ((h.o.n : Nat) : Int)).toNat = a.owns.length + n.toNat := by have := L.o; omega
      rw [e, List.getElem?_append_right (by omega), Nat.add_sub_cancel_left]
    rw [this]; exact ho.2
  | 15 =>
    simp only [opnd, Bool.and_eq_true] at ho ⊢
    have hb := wi_bounds ho.1
    refine ⟨key a.procs (b.procs.map (shP h.i.n)) h.p.n L.p (by simpa using ho.1), ?_⟩
    have : procTypeAt (joinD h a b) (n + (shiftN h ((15 : Nat) : Int) : Nat)) = procTypeAt b n := by
      show procTypeAt (joinD h a b) (n + (h.p.n : Nat)) = procTypeAt b n
      unfold procTypeAt joinD
      have e : (n + ((h.p.n : Nat) : Int)).toNat = a.procs.length + n.toNat := by have := L.p; omega
      rw [e, List.getElem?_append_right (by omega), Nat.add_sub_cancel_left, List.getElem?_map, Option.map_map]
      rfl
    rw [this]; exact ho.2
  | q + 24 =>
    have e : shiftN h ((q + 24 : Nat) : Int) = 0 := by unfold shiftN; repeat rw [if_neg (by omega)]
    rw [e]
    exact (show opnd b (q + 24) (n + ((0 : Nat) : Int)) = true by simpa using ho)
theorem opKs (n : Int) : ((opK0 n).toNat : Int) = opK0 n ∧ ((opK1 n).toNat : Int) = opK1 n ∧ ((opK2 n).toNat : Int) = opK2 n := by
  obtain ⟨⟨k0, _, h0⟩, ⟨k1, _, h1⟩, ⟨k2, _, h2⟩⟩ := opK_lt n
  exact ⟨by omega, by omega, by omega⟩
theorem ins_zero {c : CodeD} {x : InstrD} : insErr c x = 0 ↔ opIs x.op = true ∧ opnd c (opK0 x.op).toNat x.a = true ∧ opnd c (opK1 x.op).toNat x.b = true ∧ opnd c (opK2 x.op).toNat x.c = true := by
  unfold insErr
  cases opIs x.op with
  | false => simp
  | true =>
    cases opnd c (opK0 x.op).toNat x.a <;> cases opnd c (opK1 x.op).toNat x.b <;> cases opnd c (opK2 x.op).toNat x.c <;> simp
theorem ins_left (L : Lens h a) {x : InstrD} (hx : insErr a x = 0) : insErr (joinD h a b) x = 0 := by
  rw [ins_zero] at *
  exact ⟨hx.1, opnd_left L _ _ hx.2.1, opnd_left L _ _ hx.2.2.1, opnd_left L _ _ hx.2.2.2⟩
theorem ins_right (L : Lens h a) {x : InstrD} (hx : insErr b x = 0) : insErr (joinD h a b) (shI h x) = 0 := by
  rw [ins_zero] at *
  obtain ⟨e0, e1, e2⟩ := opKs x.op
  refine ⟨hx.1, ?_, ?_, ?_⟩
  · have := opnd_right (a := a) L _ _ hx.2.1; rw [e0] at this; exact this
  · have := opnd_right (a := a) L _ _ hx.2.2.1; rw [e1] at this; exact this
  · have := opnd_right (a := a) L _ _ hx.2.2.2; rw [e2] at this; exact this
theorem well_join (L : Lens h a) (A : Well a) (B : Well b) : Well (joinD h a b) := by
  have hn := join_n (b := b) L
  have hle : a.instrs.length ≤ (joinD h a b).instrs.length := by rw [hn, L.i]; omega
  refine { p := ?_, t := ?_, s := ?_, g := ?_, r := ?_, o := ?_, i := ?_ }
  · intro x hx
    rcases List.mem_append.1 hx with h' | h'
    · exact procOk_mono (A.p x h') hle
    · obtain ⟨y, hy, rfl⟩ := List.mem_map.1 h'
      have := B.p y hy
      unfold procOk leastOf at *
      simp only [Bool.and_eq_true] at *
      rw [hn]
      exact ⟨⟨⟨mv_place this.1.1.1, this.1.1.2⟩, this.1.2⟩, this.2⟩
  · intro x hx
    rcases List.mem_append.1 hx with h' | h'
    · exact thunkOk_mono (A.t x h') hle
    · obtain ⟨y, hy, rfl⟩ := List.mem_map.1 h'
      have := B.t y hy
      unfold thunkOk at *
      simp only [Bool.and_eq_true] at *
      rw [hn]
      exact ⟨⟨mv_placeOk this.1.1, mv_placeOk this.1.2⟩, mv_placeOk this.2⟩
  · intro x hx
    rcases List.mem_append.1 hx with h' | h'
    · have := switchOk_iff.1 (A.s x h')
      exact switchOk_iff.2 ⟨this.1, fun z hz => wi_mono (this.2 z hz) (by omega)⟩
    · obtain ⟨y, hy, rfl⟩ := List.mem_map.1 h'
      have := switchOk_iff.1 (B.s y hy)
      refine switchOk_iff.2 ⟨by rw [List.length_map]; exact this.1, fun z hz => ?_⟩
      obtain ⟨u, hu, rfl⟩ := List.mem_map.1 hz
      rw [hn]
      exact mv_place (this.2 u hu)
  · intro x hx
    rcases List.mem_append.1 hx with h' | h'
    · exact A.g x h'
    · exact B.g x h'
  · intro x hx
    rcases List.mem_append.1 hx with h' | h'
    · exact A.r x h'
    · exact B.r x h'
  · intro x hx
    rcases List.mem_append.1 hx with h' | h'
    · exact A.o x h'
    · exact B.o x h'
  · intro x hx
    rcases List.mem_append.1 hx with h' | h'
    · exact ins_left L (A.i x h')
    · obtain ⟨y, hy, rfl⟩ := List.mem_map.1 h'
      exact ins_right L (B.i y hy)
end Go.Proofs.YtmfnholhhakgaaaGreatDoor
