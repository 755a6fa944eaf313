/- Parse: a PROC line and an instruction line. -/
import Derived.Test.YtmfnholhhakgaaaGreatDoorMga
import Derived.RegionTactic
section
namespace Go.Proofs.YtmfnholhhakgaaaGreatDoor
open Go Go.Proofs Go.RowKit Go.Sort

/-- Which operation turns what: the one numbered k a row's block, the others nothing that was there. -/
def IRelG (k : Nat) (v0 : Value) (i : Nat) (w w' : World) : Prop := (i ≠ k → Below w.heap.size w w') ∧ w.grownBy w' v0.ownBlock
/-- How many elements a code has. -/
def sizeP (c : CodeD) : Nat := c.instrs.length + c.procs.length + c.thunks.length + c.switches.length + c.strings.length + c.reals.length + c.owns.length
theorem one_of {cs : Array Value} (h : (cs.toList.all fun u => u.oneCell') = true) : ∀ u ∈ cs.toList, u.oneCell' = true := fun u hu => List.all_eq_true.1 h u hu
theorem Reads.setCell {w : World} {B size n : Nat} {ad : Addr} {xs : List Value} {O : Nat} (h : Reads w B size (some ad) n xs) (hne : ad.block ≠ O) (j : Nat) (v : Value) : Reads (w.setCell ⟨O, j, none⟩ v) B size (some ad) n xs := by
  refine ⟨h.1, fun hn => ?_⟩
  obtain ⟨ad', e, hb, hc⟩ := h.2 hn
  cases e
  refine ⟨ad, rfl, hb, fun k u hu => ?_⟩
  rw [← hc k u hu]
  exact World.cell?_of_block (Below.heap_setCell _ _ _ _ (fun e => hne (by rw [← block_of_add ad k]; exact e)))
/-- The cells of a procedure's box while its fields are being stored. -/
def pg (L : Array Bool) (n0 n1 n2 : Int) (b : Bool) : Array Value := #[.int .i64 (bif L.getD 13 false then n0 else 0), .int .i64 (bif L.getD 15 false then n1 else 0), .int .i64 (bif L.getD 17 false then n2 else 0), .int .i64 0, .bool b]
theorem pg_ne {L : Array Bool} {i : Nat} {n0 n1 n2 : Int} {b : Bool} (h : i ≠ 13 ∧ i ≠ 15 ∧ i ≠ 17) : pg (L.setIfInBounds i true) n0 n1 n2 b = pg L n0 n1 n2 b := by
  unfold pg
  rw [getD_set_ne false h.1, getD_set_ne false h.2.1, getD_set_ne false h.2.2]
theorem getD_set_eq {L : Array Bool} {i : Nat} (h : i < L.size) : (L.setIfInBounds i true).getD i false = true := by simp [h]
theorem pg_13 {L : Array Bool} {n0 n1 n2 : Int} {b : Bool} (h : L.size = 20) : (pg L n0 n1 n2 b).setIfInBounds 0 (.int .i64 n0) = pg (L.setIfInBounds 13 true) n0 n1 n2 b := by
  unfold pg
  rw [getD_set_eq (by omega), getD_set_ne false (by decide), getD_set_ne false (by decide)]
  rfl
theorem pg_15 {L : Array Bool} {n0 n1 n2 : Int} {b : Bool} (h : L.size = 20) : (pg L n0 n1 n2 b).setIfInBounds 1 (.int .i64 n1) = pg (L.setIfInBounds 15 true) n0 n1 n2 b := by
  unfold pg
  rw [getD_set_eq (i := 15) (by omega), getD_set_ne false (by decide), getD_set_ne false (by decide)]
  rfl
theorem pg_17 {L : Array Bool} {n0 n1 n2 : Int} {b : Bool} (h : L.size = 20) : (pg L n0 n1 n2 b).setIfInBounds 2 (.int .i64 n2) = pg (L.setIfInBounds 17 true) n0 n1 n2 b := by
  unfold pg
  rw [getD_set_eq (i := 17) (by omega), getD_set_ne false (by decide), getD_set_ne false (by decide)]
  rfl
def P16 (X gq : Nat) (q : Nat) (n0 n1 n2 n3 : Int) (i : Nat) (v : Value) (_ : World) : Prop :=
  match i with
  | 0 | 3 | 6 | 9 => v = .slice (some ⟨gq, 0, none⟩) 4 q
  | 1 => v = .pointer (some (Addr.add ⟨gq, 0, none⟩ 0))
  | 2 => v = .int .i64 n0
  | 4 => v = .pointer (some (Addr.add ⟨gq, 0, none⟩ 1))
  | 5 => v = .int .i64 n1
  | 7 => v = .pointer (some (Addr.add ⟨gq, 0, none⟩ 2))
  | 8 => v = .int .i64 n2
  | 10 => v = .pointer (some (Addr.add ⟨gq, 0, none⟩ 3))
  | 11 => v = .int .i64 n3
  | 12 => v = .pointer (some ⟨X, 0, none⟩)
  | 14 => v = .pointer (some ⟨X, 1, none⟩)
  | 16 => v = .pointer (some ⟨X, 2, none⟩)
  | 18 => v = .pointer (some ⟨X, 3, none⟩)
  | _ => True
theorem grown_set {W u : World} {X : Nat} (hg : W.grownBy u (some X)) (j : Nat) (v : Value) : W.grownBy (u.setCell ⟨X, j, none⟩ v) (some X) :=
  grownBy_trans' hg ⟨rfl, rfl, rfl, by rw [size_setCell']; exact Nat.le_refl _, fun k _ hk => Below.heap_setCell _ _ _ k (fun e => hk (by rw [e]))⟩
theorem frozen_row {w : World} {X j : Nat} {cs : Array Value} {t : TypeId} (h : w.heap[X]? = some (.cells cs t (0, 0))) : w.frozen? ⟨X, j, none⟩ = false := by simp [World.frozen?, h]
def P17 (H Bp _X M : Nat) (v1 : Value) (n0 n1 n2 n3 : Int) (b : Bool) (c : CodeD) (i : Nat) (v : Value) (w : World) : Prop :=
  match i with
  | 0 => v = .pointer (some ⟨Bp, 0, none⟩)
  | 1 => v = .pointer (some ⟨Bp, 0, none⟩)
  | 2 => v = .pointer (some ⟨Bp, 0, none⟩)
  | 3 => v = .pointer (some ⟨Bp, 0, none⟩)
  | 4 => v = .pointer (some ⟨Bp, 1, none⟩)
  | 5 => v = v1
  | 6 => v = .agg #[.int .i64 n0, .int .i64 n1, .int .i64 n2, .int .i64 n3, .bool b]
  | 7 => ∃ m : Nat, v = .slice (some ⟨m, 0, none⟩) 1 1 ∧ M ≤ m ∧ w.heap[m]? = some (.cells #[.int .i64 n0, .int .i64 n1, .int .i64 n2, .int .i64 n3, .bool b] 78 (0, 0))
  | 8 => w.ownsRow H 78 5 v (c.procs.length + 1) (c.procs.flatMap ProcD.cells ++ (#[.int .i64 n0, .int .i64 n1, .int .i64 n2, .int .i64 n3, .bool b] : Array Value).toList)
  | 9 => v = .pointer (some ⟨Bp, 0, none⟩)
  | 10 => v = .pointer (some ⟨Bp, 0, none⟩)
  | 11 => v = .pointer (some ⟨Bp, 1, none⟩)
  | _ => True
theorem P17.stab {H Bp X M : Nat} {v1 : Value} {n0 n1 n2 n3 : Int} {b : Bool} {c : CodeD} (hv : ∀ k, v1.ownBlock = some k → k < M) (i j : Nat) (v : Value) (w w' : World) (hij : i ≠ j) (hp : P17 H Bp X M v1 n0 n1 n2 n3 b c i v w) (hr : IRelG 8 v1 j w w') : P17 H Bp X M v1 n0 n1 n2 n3 b c i v w' := by
  unfold P17 at *
  split <;> (try exact hp)
  · obtain ⟨m, e, hm, hc⟩ := hp
    exact ⟨m, e, hm, (hr.2.block m (Array.getElem?_eq_some_iff.1 hc).1 (fun e => by have := hv m e.symm; omega)).trans hc⟩
  · exact own_below hp (hr.1 (Ne.symm hij))
  · trivial
set_option maxRecDepth 100000
set_option maxHeartbeats 4000000 in
theorem line_proc_own (H Bp Mo Mf B : Nat) (g : Int) (c : CodeD) (s : ByteArray) (rest : List ByteArray) (w : World) (hP : PSt H Bp Mo Mf w g c) (hv : Vars B w) (hBp : B ≤ Bp) (hs : s.size ≤ 100000) (hz : ∀ x ∈ rest, x.size ≤ 100000) (hw : wordsOf s = ⟨#[80, 82, 79, 67]⟩ :: rest) (hcz : sizeP c ≤ 1000000000) (hg : g ≤ 0) (h4 : rest.length = 4) (n0 n1 n2 n3 : Int) (hn : numsD rest = some [n0, n1, n2, n3]) :
    Calls Tryz.prog 74 #[.pointer (some ⟨Bp, 0, none⟩), .string s] w (LinePost H Bp Mo Mf w (some ({ c with procs := c.procs ++ [⟨n0, n1, n2, n3, false⟩] }, 0))) := by
  obtain ⟨v0, v1, v2, v3, v4, v5, v6, sh, b6, I, S⟩ := hP
  have HI := Lib.hid I
  have HS := Lib.hid S
  have HV := Lib.hid hv
  have HW := Lib.hid hw
  have hsl := fun N w => run_rest N rest.length w
  have HN := Lib.hid hn
  have H4 := Lib.hid h4
  have HZ := Lib.hid hz
  have h5 : (((rest.length : Nat) : Int) == 5) = false := by rw [h4]; rfl
  clear hv hw h4 I S hn hz
  go_enter Tryz.func74, Tryz.ntmps74
  go_wp2_with (first
    | (go_at_call 126; refine (split_any s _ B HV.out (by omega)).mono ?_; rintro e w1 ⟨rfl, rfl⟩; rw [HW.out]; have HRd := Lib.hid (rest_reads w ⟨#[80, 82, 79, 67]⟩ rest); have hcw := words_at w (⟨#[80, 82, 79, 67]⟩ :: rest) 0 _ rfl; have HA := Lib.hid ((Below.refl _ w).alloc (Nat.le_refl _) (.cells (strCells (⟨#[80, 82, 79, 67]⟩ :: rest)).toArray 9)); have HI1 := Lib.hid (HI.out.below HA.out); have HS1 := Lib.hid (HS.out.below HA.out); have HZ1 : Hid ((w.alloc (.cells (strCells (⟨#[80, 82, 79, 67]⟩ :: rest)).toArray 9)).heap.size = w.heap.size + 1) := Lib.hid (by simp); rw [List.length_cons]; generalize hW1 : w.alloc (.cells (strCells (⟨#[80, 82, 79, 67]⟩ :: rest)).toArray 9) = W1 at HRd hcw HA HI1 HS1 HZ1 ⊢; clear hW1)
    | (go_at_call 127; refine (enter_ok Bp g 0 _ (cell_of_row _ Bp 7 _ 120 (0, 0) HI1.out.cells) (HI1.out.frozen 7) hg).mono ?_; rintro e w2 ⟨rfl, rfl⟩; have HBp := Lib.hid (Array.getElem?_eq_some_iff.1 HI.out.box).1; have HA2 := Lib.hid (below_cell HI1.out (BelowX.of HA.out HI.out.hz) 7 (.int .i64 0)); have HI2 := Lib.hid (HI1.out.group 0); have HS2 := Lib.hid (HS1.out.group HI1.out hg); have HR2 := Lib.hid (HRd.out.setCell (O := Bp) (fun e => Nat.lt_irrefl _ (e ▸ HBp.out)) 7 (.int .i64 0)); have HZ2 : Hid ((W1.setCell ⟨Bp, 7, none⟩ (.int .i64 0)).heap.size = w.heap.size + 1) := Lib.hid (by rw [size_setCell']; exact HZ1.out); generalize W1.setCell ⟨Bp, 7, none⟩ (.int .i64 0) = W2 at HA2 HI2 HS2 HR2 HZ2 ⊢)
    | (go_at_call 128; have HX3 := Lib.hid (heap_alloc_new W2 (.cells #[.int .i64 0, .int .i64 0, .int .i64 0, .int .i64 0, .bool false] 78)); have HA3 := Lib.hid ((Below.refl _ W2).alloc (Nat.le_refl _) (.cells #[.int .i64 0, .int .i64 0, .int .i64 0, .int .i64 0, .bool false] 78)); have HZ3 : Hid ((W2.alloc (.cells #[.int .i64 0, .int .i64 0, .int .i64 0, .int .i64 0, .bool false] 78)).heap.size = w.heap.size + 2) := Lib.hid (by rw [World.size_alloc, HZ2.out]); have HL := Lib.hid HI.out.hz; have HLO := Lib.hid HI.out.lo; have HB3 := Lib.hid (HA2.out.then HA3.out (by have := HZ2.out; have := HBp.out; have := HL.out; omega)); have HI3 := Lib.hid (HI2.out.below HA3.out); have HS3 := Lib.hid (HS2.out.below HA3.out); have HR3 := Lib.hid ((HR2.out.more (B' := W2.heap.size) (by rw [HZ2.out]; omega)).below HA3.out); generalize hW3 : W2.alloc (.cells #[.int .i64 0, .int .i64 0, .int .i64 0, .int .i64 0, .bool false] 78) = W3 at HX3 HA3 HZ3 HB3 HI3 HS3 HR3 ⊢; clear hW3; refine (numbers_in _ rest.length _ 4 4 W3.heap.size rest _ (HR3.out.more (by have := HZ2.out; have := HZ3.out; omega)) rfl (by have := H4.out; omega) (by have := H4.out; omega) (by have := H4.out; omega) (by omega) (fun x hx => Nat.le_trans (HZ.out x hx) (by omega)) (HV.out.at (HB3.out.below hBp HLO.out) (by have := HZ3.out; have := HBp.out; have := HL.out; omega)) (Nat.le_refl _)).mono ?_; intro e w4 hp; unfold NumsPost at hp; rw [HN.out] at hp; obtain ⟨vq, rfl, hq, hb4⟩ := hp; obtain ⟨gq, q, rfl, hq1, hq2⟩ := hq.form (show 0 < 4 by decide)))
  have HB5 := Lib.hid (HA3.out.trans (hb4.mono (by have := HZ2.out; have := HZ3.out; omega)))
  have HX5 := Lib.hid ((hb4.block W2.heap.size (by have := HZ2.out; have := HZ3.out; omega)).trans HX3.out)
  have HQ : Hid (gq < w4.heap.size ∧ gq ≠ W2.heap.size ∧ ∀ (j : Nat) (z : Value), (intCells [n0, n1, n2, n3])[j]? = some z → w4.cell? (Addr.add ⟨gq, 0, none⟩ j) = some z) := Lib.hid ⟨hq2, by have := HZ2.out; have := HZ3.out; omega, hq.cells (g := gq) rfl⟩
  have HRL : Hid (∀ q, v1.ownBlock = some q → q < W2.heap.size) := Lib.hid (fun q hq => ((HI2.out.rows 1 _ rfl).lt q hq).2)
  have hXP : W2.heap.size = w.heap.size + 1 := HZ2.out
  have HXP := Lib.hid hXP
  clear hXP hq hb4 hq1 hq2 HX3 HA3 HI3 HS3 HR3 hsl h5 hcw HI1 HS1 HA HRd
  have HHX : Hid (H ≤ W2.heap.size) := Lib.hid (by have := HZ2.out; have := HBp.out; have := HL.out; omega)
  have HSX : Hid (W2.heap.size ≤ w4.heap.size) := Lib.hid HB5.out.size
  have HSX2 : Hid (W2.heap.size ≤ W2.heap.size) := Lib.hid (Nat.le_refl _)
  have HRM : Hid (c.procs.length + 1 ≤ 1000000000000) := Lib.hid (by have := hcz; unfold sizeP at this; omega)
  generalize hX : W2.heap.size = X at *
  have HXe := Lib.hid hX
  clear hX
  refine wp_region_list3 (by kernel_rfl) (by kernel_rfl) (fun L w' => w4.grownBy w' (some X) ∧ w'.heap[X]? = some (.cells (pg L n0 n1 n2 false) 78 (0, 0))) (fun _ _ _ => True) (P16 X gq q n0 n1 n2 n3) ⟨grownBy_below' (Below.refl _ _).drew, HX5.out⟩ (fun _ _ _ _ _ _ hp _ => hp) ?_ ?_
  · have GN16 : ∀ (L : Array Bool) (i : Nat) (u : World), (i ≠ 13 ∧ i ≠ 15 ∧ i ≠ 17) → (w4.grownBy u (some X) ∧ u.heap[X]? = some (.cells (pg L n0 n1 n2 false) 78 (0, 0))) → (w4.grownBy u (some X) ∧ u.heap[X]? = some (.cells (pg (L.setIfInBounds i true) n0 n1 n2 false) 78 (0, 0))) := fun L i u hi h => ⟨h.1, by rw [pg_ne hi]; exact h.2⟩
    have hNU : ∀ u, w4.grownBy u (some X) → ∀ (j : Nat) (z : Value), (intCells [n0, n1, n2, n3])[j]? = some z → u.cell? (Addr.add ⟨gq, 0, none⟩ j) = some z := fun u hu j z hz => (World.cell?_of_block (hu.block _ (by rw [block_of_add]; exact HQ.out.1) (by rw [block_of_add]; exact fun e => HQ.out.2.1 (by cases e; rfl)))).trans (HQ.out.2.2 j z hz)
    refine ⟨?_, ?_, ?_, ?_, ?_, ?_, ?_, ?_, ?_, ?_, ?_, ?_, ?_, ?_, ?_, ?_, ?_, ?_, ?_, trivial⟩
    · intro a' u listed hls hl0 hg hd hs
      exact op_move rfl ((hs.2.2 7 (notDst2 (by kernel_rfl))).trans rfl) ⟨_, rfl, GN16 _ _ _ (by decide) hg, trivial, fun h => (by cases h), rfl⟩
    · intro a' u listed hls hl0 hg hd hs
      exact op_index28 (i := 0) rfl (hd 0 (by kernel_rfl)) (by omega) ⟨_, rfl, GN16 _ _ _ (by decide) hg, trivial, fun h => (by cases h), rfl⟩
    · intro a' u listed hls hl0 hg hd hs
      exact op_loadA3 rfl (hd 1 (by kernel_rfl)) (hNU u hg.1 0 _ rfl) ⟨_, rfl, GN16 _ _ _ (by decide) hg, trivial, fun h => (by cases h), rfl⟩
    · intro a' u listed hls hl0 hg hd hs
      exact op_move rfl ((hs.2.2 7 (notDst2 (by kernel_rfl))).trans rfl) ⟨_, rfl, GN16 _ _ _ (by decide) hg, trivial, fun h => (by cases h), rfl⟩
    · intro a' u listed hls hl0 hg hd hs
      exact op_index28 (i := 1) rfl (hd 3 (by kernel_rfl)) (by omega) ⟨_, rfl, GN16 _ _ _ (by decide) hg, trivial, fun h => (by cases h), rfl⟩
    · intro a' u listed hls hl0 hg hd hs
      exact op_loadA3 rfl (hd 4 (by kernel_rfl)) (hNU u hg.1 1 _ rfl) ⟨_, rfl, GN16 _ _ _ (by decide) hg, trivial, fun h => (by cases h), rfl⟩
    · intro a' u listed hls hl0 hg hd hs
      exact op_move rfl ((hs.2.2 7 (notDst2 (by kernel_rfl))).trans rfl) ⟨_, rfl, GN16 _ _ _ (by decide) hg, trivial, fun h => (by cases h), rfl⟩
    · intro a' u listed hls hl0 hg hd hs
      exact op_index28 (i := 2) rfl (hd 6 (by kernel_rfl)) (by omega) ⟨_, rfl, GN16 _ _ _ (by decide) hg, trivial, fun h => (by cases h), rfl⟩
    · intro a' u listed hls hl0 hg hd hs
      exact op_loadA3 rfl (hd 7 (by kernel_rfl)) (hNU u hg.1 2 _ rfl) ⟨_, rfl, GN16 _ _ _ (by decide) hg, trivial, fun h => (by cases h), rfl⟩
    · intro a' u listed hls hl0 hg hd hs
      exact op_move rfl ((hs.2.2 7 (notDst2 (by kernel_rfl))).trans rfl) ⟨_, rfl, GN16 _ _ _ (by decide) hg, trivial, fun h => (by cases h), rfl⟩
    · intro a' u listed hls hl0 hg hd hs
      exact op_index28 (i := 3) rfl (hd 9 (by kernel_rfl)) (by omega) ⟨_, rfl, GN16 _ _ _ (by decide) hg, trivial, fun h => (by cases h), rfl⟩
    · intro a' u listed hls hl0 hg hd hs
      exact op_loadA3 rfl (hd 10 (by kernel_rfl)) (hNU u hg.1 3 _ rfl) ⟨_, rfl, GN16 _ _ _ (by decide) hg, trivial, fun h => (by cases h), rfl⟩
    · intro a' u listed hls hl0 hg hd hs
      exact op_fieldAddr78 rfl ((hs.2.2 6 (notDst2 (by kernel_rfl))).trans rfl) (by decide) ⟨_, rfl, GN16 _ _ _ (by decide) hg, trivial, fun h => (by cases h), rfl⟩
    · intro a' u listed hls hl0 hg hd hs
      exact op_put3 (v0 := _) rfl (hd 12 (by kernel_rfl)) (hd 2 (by kernel_rfl)) (cell_of_row u X 0 _ 78 (0, 0) hg.2) (frozen_row hg.2) ⟨_, rfl, ⟨grown_set hg.1 _ _, (heap_setCell_at hg.2 _).trans (by rw [pg_13 hls])⟩, trivial, fun _ => rfl, trivial⟩
    · intro a' u listed hls hl0 hg hd hs
      exact op_fieldAddr78 rfl ((hs.2.2 6 (notDst2 (by kernel_rfl))).trans rfl) (by decide) ⟨_, rfl, GN16 _ _ _ (by decide) hg, trivial, fun h => (by cases h), rfl⟩
    · intro a' u listed hls hl0 hg hd hs
      exact op_put3 (v0 := _) rfl (hd 14 (by kernel_rfl)) (hd 5 (by kernel_rfl)) (cell_of_row u X 1 _ 78 (0, 0) hg.2) (frozen_row hg.2) ⟨_, rfl, ⟨grown_set hg.1 _ _, (heap_setCell_at hg.2 _).trans (by rw [pg_15 hls])⟩, trivial, fun _ => rfl, trivial⟩
    · intro a' u listed hls hl0 hg hd hs
      exact op_fieldAddr78 rfl ((hs.2.2 6 (notDst2 (by kernel_rfl))).trans rfl) (by decide) ⟨_, rfl, GN16 _ _ _ (by decide) hg, trivial, fun h => (by cases h), rfl⟩
    · intro a' u listed hls hl0 hg hd hs
      exact op_put3 (v0 := _) rfl (hd 16 (by kernel_rfl)) (hd 8 (by kernel_rfl)) (cell_of_row u X 2 _ 78 (0, 0) hg.2) (frozen_row hg.2) ⟨_, rfl, ⟨grown_set hg.1 _ _, (heap_setCell_at hg.2 _).trans (by rw [pg_17 hls])⟩, trivial, fun _ => rfl, trivial⟩
    · intro a' u listed hls hl0 hg hd hs
      exact op_fieldAddr78 rfl ((hs.2.2 6 (notDst2 (by kernel_rfl))).trans rfl) (by decide) ⟨_, rfl, GN16 _ _ _ (by decide) hg, trivial, fun h => (by cases h), rfl⟩
  · intro o ho a' u listed hg hall hp hs
    obtain rfl := Option.some.inj ho
    have e13 : listed.getD 13 false = true := hall 13 (by decide)
    have e15 : listed.getD 15 false = true := hall 15 (by decide)
    have e17 : listed.getD 17 false = true := hall 17 (by decide)
    have hX : u.heap[X]? = some (.cells #[.int .i64 n0, .int .i64 n1, .int .i64 n2, .int .i64 0, .bool false] 78 (0, 0)) := by have := hg.2; unfold pg at this; rw [e13, e15, e17] at this; exact this
    have p18 := hp 18 (by decide)
    have p11 := hp 11 (by decide)
    refine op_put3 rfl p18 p11 (cell_of_row u X 3 _ 78 (0, 0) hX) (frozen_row hX) ?_
    have HX6 := Lib.hid (heap_setCell_at (j := 3) hX (.int .i64 n3))
    have HG6 := Lib.hid (grown_set hg.1 3 (.int .i64 n3))
    have ha := act_all hs [98, 99, 100, 101, 102, 103, 104, 105, 106, 107, 108, 109, 110, 111, 112, 113] (by kernel_rfl) (by kernel_rfl)
    simp only [List.map_cons, List.map_nil] at ha
    generalize a'.tmps.getD 98 undef = t98 at ha
    generalize a'.tmps.getD 99 undef = t99 at ha
    generalize a'.tmps.getD 100 undef = t100 at ha
    generalize a'.tmps.getD 101 undef = t101 at ha
    generalize a'.tmps.getD 102 undef = t102 at ha
    generalize a'.tmps.getD 103 undef = t103 at ha
    generalize a'.tmps.getD 104 undef = t104 at ha
    generalize a'.tmps.getD 105 undef = t105 at ha
    generalize a'.tmps.getD 106 undef = t106 at ha
    generalize a'.tmps.getD 107 undef = t107 at ha
    generalize a'.tmps.getD 108 undef = t108 at ha
    generalize a'.tmps.getD 109 undef = t109 at ha
    generalize a'.tmps.getD 110 undef = t110 at ha
    generalize a'.tmps.getD 111 undef = t111 at ha
    generalize a'.tmps.getD 112 undef = t112 at ha
    generalize a'.tmps.getD 113 undef = t113 at ha
    clear hp hg hall e13 e15 e17 hX p18 p11
    change Exit.then _ _ .normal a' _
    rw [ha]
    simp only [List.foldl_cons, List.foldl_nil, Act.put, List.setIfInBounds_toArray, List.set_cons_succ, List.set_cons_zero]
    clear ha hs
    generalize u.setCell ⟨X, 3, none⟩ (.int .i64 n3) = W6 at HX6 HG6 ⊢
    have HB26 := Lib.hid (HB5.out.grown HG6.out HSX.out (fun k e => by cases e; exact HSX2.out))
    have HI6 := Lib.hid (HI2.out.below (by rw [HXe.out]; exact HB26.out))
    have HS6 := Lib.hid (HS2.out.below (by rw [HXe.out]; exact HB26.out))
    have HBu := Lib.hid (Array.getElem?_eq_some_iff.1 HI6.out.box).1
    have HZ6 := Lib.hid HB26.out.size
    have HR6 : Hid (∀ q, v1.ownBlock = some q → q < W6.heap.size) := Lib.hid (fun q hq => ((HI6.out.rows 1 _ rfl).lt q hq).2)
    have HBW := Lib.hid (HA2.out.then HB26.out HHX.out)
    clear HB5 HG6 HX5 HQ HI2 HS2 HA2
    go_wp2
    refine wp_region_list2 (by kernel_rfl) (by kernel_rfl) (fun L w' => W6.grownBy w' v1.ownBlock ∧ (L.getD 8 false = false → Below W6.heap.size W6 w')) (IRelG 8 v1) (P17 H Bp X W6.heap.size v1 n0 n1 n2 n3 false c) ⟨grownBy_below' ((Below.refl _ _).drew), fun _ => (Below.refl _ _).drew⟩ (P17.stab HR6.out) ?_ ?_
    · have GN : ∀ (L : Array Bool) (i : Nat) (u : World), i ≠ 8 → (W6.grownBy u v1.ownBlock ∧ (L.getD 8 false = false → Below W6.heap.size W6 u)) → (W6.grownBy u v1.ownBlock ∧ ((L.setIfInBounds i true).getD 8 false = false → Below W6.heap.size W6 u)) := fun L i u hi h => ⟨h.1, fun e => h.2 (by rwa [getD_set_ne false hi] at e)⟩
      have HRR : ∀ i u, IRelG 8 v1 i u u := fun i u => ⟨fun _ => Below.refl _ _, grownBy_below' (Below.refl _ _)⟩
      have hBX : ∀ u, W6.grownBy u v1.ownBlock → u.heap[Bp]? = some (.cells #[v0, v1, v2, v3, v4, v5, v6, .int .i64 0, .map (some Mo), .map (some Mf)] 120 (0, 0)) := fun u hu => (HI6.out.keep (i := 1) rfl hu).1
      have hBY : ∀ u, W6.grownBy u v1.ownBlock → u.heap[X]? = some (.cells #[.int .i64 n0, .int .i64 n1, .int .i64 n2, .int .i64 n3, .bool false] 78 (0, 0)) := fun u hu => (hu.block X (Array.getElem?_eq_some_iff.1 HX6.out).1 (fun e => by have := HRL.out X e.symm; omega)).trans HX6.out
      refine ⟨?_, ?_, ?_, ?_, ?_, ?_, ?_, ?_, ?_, ?_, ?_, ?_, trivial⟩
      · intro a' u listed hls hl0 hg hdp hs
        exact op_move rfl ((hs.2.2 0 (notDst2 (by kernel_rfl))).trans rfl) ⟨_, rfl, GN _ _ _ (by decide) hg, HRR _ _, fun h => (by cases h), rfl⟩
      · intro a' u listed hls hl0 hg hdp hs
        exact op_move rfl ((hs.2.2 0 (notDst2 (by kernel_rfl))).trans rfl) ⟨_, rfl, GN _ _ _ (by decide) hg, HRR _ _, fun h => (by cases h), rfl⟩
      · intro a' u listed hls hl0 hg hdp hs
        exact op_nilCheck rfl (hdp 1 (by kernel_rfl)) ⟨_, rfl, GN _ _ _ (by decide) hg, HRR _ _, fun h => (by cases h), rfl⟩
      · intro a' u listed hls hl0 hg hdp hs
        exact op_parser0 rfl (hdp 2 (by kernel_rfl)) ⟨_, rfl, GN _ _ _ (by decide) hg, HRR _ _, fun h => (by cases h), rfl⟩
      · intro a' u listed hls hl0 hg hdp hs
        exact op_fieldAddr rfl (hdp 3 (by kernel_rfl)) (by decide) ⟨_, rfl, GN _ _ _ (by decide) hg, HRR _ _, fun h => (by cases h), rfl⟩
      · intro a' u listed hls hl0 hg hdp hs
        exact op_load23 rfl (hdp 4 (by kernel_rfl)) (cell_of_row u _ 1 _ 120 (0, 0) (hBX u hg.1)) ⟨_, rfl, GN _ _ _ (by decide) hg, HRR _ _, fun h => (by cases h), rfl⟩
      · intro a' u listed hls hl0 hg hdp hs
        exact op_load78 rfl ((hs.2.2 6 (notDst2 (by kernel_rfl))).trans rfl) (cell_of_row u X 0 _ 78 (0, 0) (hBY u hg.1)) (cell_of_row u X 1 _ 78 (0, 0) (hBY u hg.1)) (cell_of_row u X 2 _ 78 (0, 0) (hBY u hg.1)) (cell_of_row u X 3 _ 78 (0, 0) (hBY u hg.1)) (cell_of_row u X 4 _ 78 (0, 0) (hBY u hg.1)) ⟨_, rfl, GN _ _ _ (by decide) hg, HRR _ _, fun h => (by cases h), rfl⟩
      · intro a' u listed hls hl0 hg hdp hs
        have hal : Below u.heap.size u (u.alloc (.cells #[.int .i64 n0, .int .i64 n1, .int .i64 n2, .int .i64 n3, .bool false] 78)) := (Below.refl _ u).alloc (Nat.le_refl _) _
        exact op_bs23 rfl (hdp 6 (by kernel_rfl)) ⟨_, rfl, ⟨grownBy_trans' hg.1 (grownBy_below' hal), fun e => (hg.2 (by rwa [getD_set_ne false (by decide)] at e)).trans (hal.mono hg.1.size)⟩, ⟨fun _ => hal, grownBy_below' hal⟩, fun h => (by cases h), u.heap.size, rfl, hg.1.size, heap_alloc_new u _⟩
      · intro a' u listed hls hl0 hg hdp hs
        obtain ⟨m, e, hm, hc⟩ := hdp 7 (by kernel_rfl)
        have hrow := own_below (HI6.out.rows 1 _ rfl) (hg.2 hl0)
        refine op_append elemProc rfl _ v1 _ _ (hdp 5 (by kernel_rfl)) hrow _ m e rfl hc (one_of rfl) HRM.out (by have := HI6.out.hz; have := HBu.out; have := hg.1.size; omega) ?_
        intro v' w' ho hgr
        have hset : (listed.setIfInBounds 8 true).getD 8 false = true := by simp [hls]
        exact ⟨_, rfl, ⟨grownBy_trans' hg.1 hgr, fun e => by rw [hset] at e; cases e⟩, ⟨fun h => absurd rfl h, hgr⟩, fun h => (by cases h), ho⟩
      · intro a' u listed hls hl0 hg hdp hs
        exact op_nilCheck rfl (hdp 0 (by kernel_rfl)) ⟨_, rfl, GN _ _ _ (by decide) hg, HRR _ _, fun h => (by cases h), rfl⟩
      · intro a' u listed hls hl0 hg hdp hs
        exact op_parser0 rfl (hdp 9 (by kernel_rfl)) ⟨_, rfl, GN _ _ _ (by decide) hg, HRR _ _, fun h => (by cases h), rfl⟩
      · intro a' u listed hls hl0 hg hdp hs
        exact op_fieldAddr rfl (hdp 10 (by kernel_rfl)) (by decide) ⟨_, rfl, GN _ _ _ (by decide) hg, HRR _ _, fun h => (by cases h), rfl⟩
    · intro o ho a' u listed hg hp hs
      obtain rfl := Option.some.inj ho
      have p11 := hp 11 (by decide)
      have p8 := hp 8 (by decide)
      change u.ownsRow H 78 5 (a'.tmps.getD 122 undef) _ _ at p8
      have HP := Lib.hid (pst_push1 (x := ⟨n0, n1, n2, n3, false⟩) HI6.out HS6.out p8 hg.1)
      have HBU := Lib.hid (((HBW.out.grown hg.1 (by have := HI6.out.hz; have := HBu.out; omega) (fun k e => ((HI6.out.rows 1 _ rfl).lt k e).1))).setCell 1 (a'.tmps.getD 122 undef))
      have hbx := (HI6.out.keep (i := 1) rfl hg.1).1
      refine op_put23 rfl p11 rfl (own_isSlice p8) (cell_of_row u Bp 1 _ 120 (0, 0) hbx) (frozen_row hbx) ?_
      have ha := act_all hs [114, 115, 116, 117, 118, 119, 120, 121, 122, 123, 124, 125] (by kernel_rfl) (by kernel_rfl)
      simp only [List.map_cons, List.map_nil] at ha
      generalize a'.tmps.getD 114 undef = t114 at ha
      generalize a'.tmps.getD 115 undef = t115 at ha
      generalize a'.tmps.getD 116 undef = t116 at ha
      generalize a'.tmps.getD 117 undef = t117 at ha
      generalize a'.tmps.getD 118 undef = t118 at ha
      generalize a'.tmps.getD 119 undef = t119 at ha
      generalize a'.tmps.getD 120 undef = t120 at ha
      generalize a'.tmps.getD 121 undef = t121 at ha
      generalize a'.tmps.getD 122 undef = t122 at ha HP HBU ⊢
      generalize a'.tmps.getD 123 undef = t123 at ha
      generalize a'.tmps.getD 124 undef = t124 at ha
      generalize a'.tmps.getD 125 undef = t125 at ha
      clear hp hg hbx p11 p8
      change Exit.inBlock _ _ .normal a' _
      rw [ha]
      simp only [List.foldl_cons, List.foldl_nil, Act.put, List.setIfInBounds_toArray, List.set_cons_succ, List.set_cons_zero]
      clear ha hs
      generalize u.setCell ⟨Bp, 1, none⟩ t122 = W7 at HP HBU ⊢
      go_wp2
      go_end0
      exact ⟨rfl, HP.out, HBU.out⟩
end Go.Proofs.YtmfnholhhakgaaaGreatDoor
end
section
namespace Go.Proofs.YtmfnholhhakgaaaGreatDoor
open Go Go.Proofs Go.RowKit Go.Sort

theorem cell_keep_set {w : World} {O b k j : Nat} {v x : Value} (hb : b ≠ O) (h : w.cell? ⟨b, k, none⟩ = some x) : (w.setCell ⟨O, j, none⟩ v).cell? ⟨b, k, none⟩ = some x :=
  (World.cell?_of_block (Below.heap_setCell _ _ _ _ hb)).trans h
/-- m elements appended to a row that the call owns: they lie in a new block; what has turned. -/
theorem wpList_pushM {t e : TypeId} {size bytes : Nat} {z : Value} (E : Elem t e size bytes z) {w : World} {ops : Array Oper} {rest : List Oper} {o : Oper} {a : Act} {Q : Exit → Act → World → Prop} (hgd : o.guard = none) (s x : Operand)
    (ho : o.op = .call { callee := .builtin .append, args := #[s, x], argTypes := #[t, t] }) (base : Nat) (v : Value) (n : Nat) (xs : List Value) (hs : a.eval s = v) (hown : w.ownsRow base e size v n xs)
    (cs : Array Value) (m N : Nat) (hx : a.eval x = .slice (some ⟨N, 0, none⟩) m m) (hN : w.heap.size = N) (hcs : cs.size = m * size) (h1 : ∀ u ∈ cs.toList, u.oneCell' = true)
    (h63 : n + m ≤ 1000000000000) (hbase : base ≤ w.heap.size)
    (h : ∀ v' w', w'.ownsRow base e size v' (n + m) (xs ++ cs.toList) → w.grownBy w' v.ownBlock → wpList Tryz.prog ops Q rest (a.put o.dst v') w') : wpList Tryz.prog ops Q (o :: rest) a (w.alloc (.cells cs e)) := by
  subst hN
  obtain ⟨i, hi, hz, hsz, hby⟩ := E.i
  refine wpList_append_own _ hgd s x t ho base e i z size bytes E.u hi hz hsz hby E.s E.p v n xs hs (hown.alloc _) ⟨w.heap.size, 0, none⟩ m m cs.toList hx (by simp [hcs]) (World.news_of_block (heap_alloc_new w _)) h1 (by unfold maxLen; omega) ?_ (by simp; omega) ?_
  · have := E.b
    calc (n + m) * bytes ≤ 1000000000000 * 64 := Nat.mul_le_mul h63 this
      _ ≤ _ := by decide
  · intro v' w' h2 h3 _
    refine h v' w' h2 ⟨h3.os, h3.tape, h3.output, by have := h3.size; simp at this; omega, fun k hk hne => ?_⟩
    rw [h3.block k (by simp; omega) hne]
    exact Below.heap_alloc _ _ _ hk
/-- The word is none of the words that begin a line of a table. -/
structure NoTab (hd : ByteArray) : Prop where
  a : (hd.toList == [80, 82, 79, 67]) = false
  b : (hd.toList == [84, 72, 85, 78, 75]) = false
  c : (hd.toList == [83, 87, 73, 84, 67, 72]) = false
  d : (hd.toList == [83, 84, 82, 73, 78, 71]) = false
  e : (hd.toList == [82, 69, 65, 76]) = false
  f : (hd.toList == [79, 87, 78]) = false
/-- The instruction that an operation and numbers make. -/
def insOf (op : Int) (L : List Int) : InstrD := ⟨op, (L ++ [0, 0, 0]).getD 0 0, (L ++ [0, 0, 0]).getD 1 0, (L ++ [0, 0, 0]).getD 2 0⟩
theorem cell_drew (w : World) (a : Addr) : w.drew.cell? a = w.cell? a := rfl
theorem manyN_le (a b c : Int) : 0 ≤ manyN a b c ∧ manyN a b c ≤ 3 := by
  unfold manyN
  repeat' split
  all_goals omega
theorem pad_at (L : List Int) (j : Nat) (hj : j < 3) : (intCells (L ++ [0, 0, 0]))[j]? = some (.int .i64 ((L ++ [0, 0, 0]).getD j 0)) := by
  unfold intCells
  rw [List.getElem?_map, List.getElem?_eq_getElem (by simp; omega), List.getD_eq_getElem?_getD, List.getElem?_eq_getElem (by simp; omega)]
  rfl
def P4 (Bp Mo W0 n1 : Nat) (hd : ByteArray) (i : Nat) (v : Value) (_ : World) : Prop :=
  match i with
  | 0 | 1 => v = .pointer (some ⟨Bp, 0, none⟩)
  | 2 => v = .pointer (some ⟨Bp, 8, none⟩)
  | 3 => v = .map (some Mo)
  | 4 => v = .slice (some ⟨W0, 0, none⟩) n1 n1
  | 5 => v = .pointer (some ⟨W0, 0, none⟩)
  | 6 => v = .string hd
  | 7 | 8 => v = .tuple #[.int .i64 (opNum hd), .bool (opNum hd != 0)]
  | 9 => v = .int .i64 (opNum hd)
  | 10 => v = .bool (opNum hd != 0)
  | 11 => v = .int .i64 (opNum hd)
  | _ => True
def P9 (H Bp M : Nat) (v0 : Value) (hd : ByteArray) (L : List Int) (g2 q2 : Nat) (a0 a1 a2 : Int) (c : CodeD) (i : Nat) (v : Value) (w : World) : Prop :=
  match i with
  | 0 => v = .pointer (some ⟨Bp, 0, none⟩)
  | 1 => v = .pointer (some ⟨Bp, 0, none⟩)
  | 2 => v = .pointer (some ⟨Bp, 0, none⟩)
  | 3 => v = .pointer (some ⟨Bp, 0, none⟩)
  | 4 => v = .pointer (some ⟨Bp, 0, none⟩)
  | 5 => v = v0
  | 6 => v = .int .i64 (opNum hd)
  | 7 => v = .slice (some ⟨g2, 0, none⟩) (L.length + 3) q2
  | 8 => v = .pointer (some (Addr.add ⟨g2, 0, none⟩ 0))
  | 9 => v = .int .i64 a0
  | 10 => v = .slice (some ⟨g2, 0, none⟩) (L.length + 3) q2
  | 11 => v = .pointer (some (Addr.add ⟨g2, 0, none⟩ 1))
  | 12 => v = .int .i64 a1
  | 13 => v = .slice (some ⟨g2, 0, none⟩) (L.length + 3) q2
  | 14 => v = .pointer (some (Addr.add ⟨g2, 0, none⟩ 2))
  | 15 => v = .int .i64 a2
  | 16 => v = .agg #[.int .i64 (opNum hd), .int .i64 a0, .int .i64 a1, .int .i64 a2]
  | 17 => ∃ m : Nat, v = .slice (some ⟨m, 0, none⟩) 1 1 ∧ M ≤ m ∧ w.heap[m]? = some (.cells #[.int .i64 (opNum hd), .int .i64 a0, .int .i64 a1, .int .i64 a2] 52 (0, 0))
  | 18 => w.ownsRow H 52 4 v (c.instrs.length + 1) (c.instrs.flatMap InstrD.cells ++ (#[.int .i64 (opNum hd), .int .i64 a0, .int .i64 a1, .int .i64 a2] : Array Value).toList)
  | 19 => v = .pointer (some ⟨Bp, 0, none⟩)
  | 20 => v = .pointer (some ⟨Bp, 0, none⟩)
  | 21 => v = .pointer (some ⟨Bp, 0, none⟩)
  | _ => True
theorem P9.stab {H Bp M : Nat} {v0 : Value} {hd : ByteArray} {L : List Int} {g2 q2 : Nat} {a0 a1 a2 : Int} {c : CodeD} (hv : ∀ k, v0.ownBlock = some k → k < M) (i j : Nat) (v : Value) (w w' : World) (hij : i ≠ j) (hp : P9 H Bp M v0 hd L g2 q2 a0 a1 a2 c i v w) (hr : IRelG 18 v0 j w w') : P9 H Bp M v0 hd L g2 q2 a0 a1 a2 c i v w' := by
  unfold P9 at *
  split <;> (try exact hp)
  · obtain ⟨m, e, hm, hc⟩ := hp
    exact ⟨m, e, hm, (hr.2.block m (Array.getElem?_eq_some_iff.1 hc).1 (fun e => by have := hv m e.symm; omega)).trans hc⟩
  · exact own_below hp (hr.1 (Ne.symm hij))
  · trivial
set_option maxRecDepth 100000
set_option maxHeartbeats 4000000 in
theorem line_ins_ok (H Bp Mo Mf B : Nat) (g : Int) (c : CodeD) (s hd : ByteArray) (rest : List ByteArray) (w : World) (hP : PSt H Bp Mo Mf w g c) (hv : Vars B w) (hBp : B ≤ Bp) (hs : s.size ≤ 100000) (hz : ∀ x ∈ rest, x.size ≤ 100000) (hw : wordsOf s = hd :: rest) (hnt : NoTab hd) (hcz : sizeP c ≤ 1000000000) (hg : g ≤ 6) (ho : opNum hd ≠ 0) (L : List Int) (hn : numsD rest = some L) (hm : (rest.length : Int) = manyN (opK0 (opNum hd)) (opK1 (opNum hd)) (opK2 (opNum hd))) :
    Calls Tryz.prog 74 #[.pointer (some ⟨Bp, 0, none⟩), .string s] w (LinePost H Bp Mo Mf w (some ({ c with instrs := c.instrs ++ [insOf (opNum hd) L] }, 6))) := by
  obtain ⟨v0, v1, v2, v3, v4, v5, v6, sh, b6, I, S⟩ := hP
  have HI := Lib.hid I
  have HS := Lib.hid S
  have HV := Lib.hid hv
  have HW := Lib.hid hw
  have hsl := fun N w => run_rest N rest.length w
  have HZ := Lib.hid hz
  have HN := Lib.hid hn
  have HLL := Lib.hid (numsD_length hn)
  have HM := Lib.hid hm
  have HM3 := Lib.hid (manyN_le (opK0 (opNum hd)) (opK1 (opNum hd)) (opK2 (opNum hd)))
  have HO := Lib.hid ho
  have ka := hnt.a
  have kb := hnt.b
  have kc := hnt.c
  have kd := hnt.d
  have ke := hnt.e
  have kf := hnt.f
  clear hv hw I S hz hnt hn hm ho
  go_enter Tryz.func74, Tryz.ntmps74
  go_wp2_with (first
    | (go_at_call 126; refine (split_any s _ B HV.out (by omega)).mono ?_; rintro e w1 ⟨rfl, rfl⟩; rw [HW.out]; have HRd := Lib.hid (rest_reads w hd rest); have hcw := words_at w (hd :: rest) 0 _ rfl; have HA := Lib.hid ((Below.refl _ w).alloc (Nat.le_refl _) (.cells (strCells (hd :: rest)).toArray 9)); have HI1 := Lib.hid (HI.out.below HA.out); have HS1 := Lib.hid (HS.out.below HA.out); have HZ1 : Hid ((w.alloc (.cells (strCells (hd :: rest)).toArray 9)).heap.size = w.heap.size + 1) := Lib.hid (by simp); rw [List.length_cons]; generalize hW1 : w.alloc (.cells (strCells (hd :: rest)).toArray 9) = W1 at HRd hcw HA HI1 HS1 HZ1 ⊢; clear hW1)
    | (go_at_call 127; refine (enter_ok Bp g 6 _ (cell_of_row _ Bp 7 _ 120 (0, 0) HI1.out.cells) (HI1.out.frozen 7) hg).mono ?_; rintro e w2 ⟨rfl, rfl⟩; have HBp := Lib.hid (Array.getElem?_eq_some_iff.1 HI.out.box).1; have HC2 := Lib.hid (cell_keep_set (O := Bp) (j := 7) (v := .int .i64 6) (fun e => Nat.lt_irrefl _ (e ▸ HBp.out)) hcw); have HA2 := Lib.hid (below_cell HI1.out (BelowX.of HA.out HI.out.hz) 7 (.int .i64 6)); have HI2 := Lib.hid (HI1.out.group 6); have HS2 := Lib.hid (HS1.out.group HI1.out hg); have HR2 := Lib.hid (HRd.out.setCell (O := Bp) (fun e => Nat.lt_irrefl _ (e ▸ HBp.out)) 7 (.int .i64 6)); have HZ2 : Hid ((W1.setCell ⟨Bp, 7, none⟩ (.int .i64 6)).heap.size = w.heap.size + 1) := Lib.hid (by rw [size_setCell']; exact HZ1.out); generalize W1.setCell ⟨Bp, 7, none⟩ (.int .i64 6) = W2 at HA2 HI2 HS2 HR2 HZ2 HC2 ⊢; clear hcw))
  have HLK : Hid ((Instr.lookup 118 (.map (some Mo)) (.string hd) true).run Tryz.prog W2.drew = .ok (.tuple #[.int .i64 (opNum hd), .bool (opNum hd != 0)]) W2.drew) := Lib.hid (by obtain ⟨ob, hob, hop, _⟩ := HI2.out.ops; exact hop W2.drew Mo hob hd)
  clear ka kb kc kd ke kf hsl
  refine wp_region_list2 (by kernel_rfl) (by kernel_rfl) (fun _ w' => w' = W2.drew) (fun _ _ _ => True) (P4 Bp Mo w.heap.size (rest.length + 1) hd) rfl (fun _ _ _ _ _ _ hp _ => hp) ?_ ?_
  · refine ⟨?_, ?_, ?_, ?_, ?_, ?_, ?_, ?_, ?_, ?_, ?_, ?_, trivial⟩
    · intro a' u listed hls hl0 hg hd' hs
      subst hg
      exact op_move rfl ((hs.2.2 0 (notDst2 (by kernel_rfl))).trans rfl) ⟨_, rfl, rfl, trivial, fun h => (by cases h), rfl⟩
    · intro a' u listed hls hl0 hg hd' hs
      subst hg
      exact op_nilCheck rfl (hd' 0 (by kernel_rfl)) ⟨_, rfl, rfl, trivial, fun h => (by cases h), rfl⟩
    · intro a' u listed hls hl0 hg hd' hs
      subst hg
      exact op_parser2 rfl (hd' 1 (by kernel_rfl)) ⟨_, rfl, rfl, trivial, fun h => (by cases h), rfl⟩
    · intro a' u listed hls hl0 hg hd' hs
      subst hg
      exact op_loadP rfl Tryz.isAgg118 ⟨_, Tryz.underlying118⟩ Tryz.sizeOf118 (hd' 2 (by kernel_rfl)) (cell_of_row W2.drew Bp 8 _ 120 (0, 0) HI2.out.cells) ⟨_, rfl, rfl, trivial, fun h => (by cases h), rfl⟩
    · intro a' u listed hls hl0 hg hd' hs
      subst hg
      exact op_move rfl ((hs.2.2 4 (notDst2 (by kernel_rfl))).trans rfl) ⟨_, rfl, rfl, trivial, fun h => (by cases h), rfl⟩
    · intro a' u listed hls hl0 hg hd' hs
      subst hg
      exact op_index26 (i := 0) rfl (hd' 4 (by kernel_rfl)) (by omega) ⟨_, rfl, rfl, trivial, fun h => (by cases h), rfl⟩
    · intro a' u listed hls hl0 hg hd' hs
      subst hg
      exact op_loadA9 rfl (hd' 5 (by kernel_rfl)) HC2.out ⟨_, rfl, rfl, trivial, fun h => (by cases h), rfl⟩
    · intro a' u listed hls hl0 hg hd' hs
      subst hg
      exact op_lookup118 rfl (hd' 3 (by kernel_rfl)) (hd' 6 (by kernel_rfl)) HLK.out ⟨_, rfl, rfl, trivial, fun h => (by cases h), rfl⟩
    · intro a' u listed hls hl0 hg hd' hs
      subst hg
      exact op_move rfl (hd' 7 (by kernel_rfl)) ⟨_, rfl, rfl, trivial, fun h => (by cases h), rfl⟩
    · intro a' u listed hls hl0 hg hd' hs
      subst hg
      exact op_extract rfl (hd' 8 (by kernel_rfl)) rfl ⟨_, rfl, rfl, trivial, fun h => (by cases h), rfl⟩
    · intro a' u listed hls hl0 hg hd' hs
      subst hg
      exact op_extract rfl (hd' 8 (by kernel_rfl)) rfl ⟨_, rfl, rfl, trivial, fun h => (by cases h), rfl⟩
    · intro a' u listed hls hl0 hg hd' hs
      subst hg
      exact op_assign rfl (hd' 9 (by kernel_rfl)) ⟨_, rfl, rfl, trivial, fun h => (by cases h), rfl⟩
  · intro o ho' a' u listed hg hp hs
    obtain rfl := Option.some.inj ho'
    have p10 := hp 10 (by decide)
    have p11 := hp 11 (by decide)
    refine op_assign rfl p10 ?_
    subst hg
    have ha := act_all hs [30, 31, 32, 33, 34, 35, 36, 37, 29, 38, 39, 16] (by kernel_rfl) (by kernel_rfl)
    simp only [List.map_cons, List.map_nil] at ha
    change a'.tmps.getD 16 undef = _ at p11
    rw [p11] at ha
    generalize a'.tmps.getD 30 undef = t30 at ha
    generalize a'.tmps.getD 31 undef = t31 at ha
    generalize a'.tmps.getD 32 undef = t32 at ha
    generalize a'.tmps.getD 33 undef = t33 at ha
    generalize a'.tmps.getD 34 undef = t34 at ha
    generalize a'.tmps.getD 35 undef = t35 at ha
    generalize a'.tmps.getD 36 undef = t36 at ha
    generalize a'.tmps.getD 37 undef = t37 at ha
    generalize a'.tmps.getD 29 undef = t29 at ha
    generalize a'.tmps.getD 38 undef = t38 at ha
    generalize a'.tmps.getD 39 undef = t39 at ha
    clear hp p10 p11
    change Exit.then _ _ .normal (a'.put (some 17) _) W2.drew
    rw [ha]
    simp only [List.foldl_cons, List.foldl_nil, Act.put, List.setIfInBounds_toArray, List.set_cons_succ, List.set_cons_zero]
    clear ha hs
    have hob : (opNum hd != 0) = true := by have := HO.out; simpa using this
    rw [hob]
    clear hob
    have HD2 : Hid (Below W2.heap.size W2 W2.drew) := Lib.hid (Below.refl _ _).drew
    have HI3 := Lib.hid (HI2.out.below HD2.out)
    have HS3 := Lib.hid (HS2.out.below HD2.out)
    have hq9 := cell_of_row W2.drew Bp 9 _ 120 (0, 0) HI3.out.cells
    have hl1 := look_fmt1 HI3.out.forms (opNum hd)
    go_wp2_with (first
      | (at_builtin; refine wpList_pushM elemInts rfl _ _ rfl w3.heap.size _ _ _ rfl HQ4.out _ 3 _ rfl (by first | rfl | simp) rfl (one_of rfl) (by have := HLL.out; have := HM.out; have := HM3.out; omega) HZ4.out ?_; intro v' w5 ho hg; have HO5 := Lib.hid ho; have HG5 := Lib.hid hg; clear ho hg)
      | (go_at_call 76; refine (many_any _ _ _ _ _).mono ?_; rintro e w3 ⟨rfl, hb3⟩; rw [← HM.out]; have HB3 := Lib.hid (HD2.out.trans hb3); clear hb3 hq9 hl1)
      | (go_at_call 128; refine (numbers_in _ rest.length _ rest.length rest.length w3.heap.size rest _ (((HR2.out.more (by rw [HZ2.out]; omega)).below HB3.out).more HB3.out.size) rfl (by have := HM.out; have := HM3.out; omega) (Nat.le_refl _) (Nat.le_refl _) (by have := HM.out; have := HM3.out; omega) (fun x hx => Nat.le_trans (HZ.out x hx) (by omega)) (HV.out.at ((HA2.out.then HB3.out (by have := HZ2.out; have := HBp.out; have := HI.out.hz; omega)).below hBp HI.out.lo) (by have := HB3.out.size; have := HZ2.out; have := HBp.out; have := HI.out.hz; omega)) (Nat.le_refl _)).mono ?_; intro e w4 hp; unfold NumsPost at hp; rw [HN.out] at hp; obtain ⟨vq, rfl, hq, hb4⟩ := hp; have HQ4 := Lib.hid hq; have HB4 := Lib.hid (HB3.out.trans (hb4.mono HB3.out.size)); have HZ4 := Lib.hid hb4.size; clear hq hb4))
    obtain ⟨g2, q2, rfl, hg21, hg22⟩ := HO5.out.form (Nat.succ_pos _)
    obtain ⟨a0, ha0⟩ : ∃ a, a = (L ++ [0, 0, 0]).getD 0 0 := ⟨_, rfl⟩
    obtain ⟨a1, ha1⟩ : ∃ a, a = (L ++ [0, 0, 0]).getD 1 0 := ⟨_, rfl⟩
    obtain ⟨a2, ha2⟩ : ∃ a, a = (L ++ [0, 0, 0]).getD 2 0 := ⟨_, rfl⟩
    have HIN : Hid (insOf (opNum hd) L = ⟨opNum hd, a0, a1, a2⟩) := Lib.hid (by rw [ha0, ha1, ha2]; rfl)
    have HA0 : Hid ((intCells (L ++ [0, 0, 0]))[0]? = some (.int .i64 a0)) := Lib.hid (by rw [ha0]; exact pad_at L 0 (by decide))
    have HA1 : Hid ((intCells (L ++ [0, 0, 0]))[1]? = some (.int .i64 a1)) := Lib.hid (by rw [ha1]; exact pad_at L 1 (by decide))
    have HA2' : Hid ((intCells (L ++ [0, 0, 0]))[2]? = some (.int .i64 a2)) := Lib.hid (by rw [ha2]; exact pad_at L 2 (by decide))
    have HRL : Hid (∀ q, v0.ownBlock = some q → q < W2.heap.size) := Lib.hid (fun q hq => ((HI2.out.rows 0 _ rfl).lt q hq).2)
    have HQ : Hid (g2 < w5.heap.size ∧ W2.heap.size ≤ g2 ∧ ∀ (j : Nat) (z : Value), (intCells (L ++ [0, 0, 0]))[j]? = some z → w5.cell? (Addr.add ⟨g2, 0, none⟩ j) = some z) := Lib.hid ⟨hg22, Nat.le_trans HB3.out.size hg21, fun j z hz => HO5.out.cells (g := g2) rfl j z (by rw [show intCells (L ++ [0, 0, 0]) = intCells L ++ (#[.int .i64 0, .int .i64 0, .int .i64 0] : Array Value).toList from by simp [intCells]] at hz; exact hz)⟩
    have HB26 := Lib.hid (HB4.out.grown HG5.out HB4.out.size (fun q hq => Nat.le_trans HB3.out.size (HQ4.out.lt q hq).1))
    have HI6 := Lib.hid (HI2.out.below HB26.out)
    have HS6 := Lib.hid (HS2.out.below HB26.out)
    have HBu := Lib.hid (Array.getElem?_eq_some_iff.1 HI6.out.box).1
    have HR6 : Hid (∀ q, v0.ownBlock = some q → q < w5.heap.size) := Lib.hid (fun q hq => ((HI6.out.rows 0 _ rfl).lt q hq).2)
    have HBW := Lib.hid (HA2.out.then HB26.out (by have := HZ2.out; have := HBp.out; have := HI.out.hz; omega))
    have HRM : Hid (c.instrs.length + 1 ≤ 1000000000000) := Lib.hid (by have := hcz; unfold sizeP at this; omega)
    have HA2 := HA2'
    clear ha0 ha1 ha2 hg21 hg22 HI3 HS3 HA2'
    generalize w5 = W6 at *
    refine wp_region_list2 (by kernel_rfl) (by kernel_rfl) (fun L w' => W6.grownBy w' v0.ownBlock ∧ (L.getD 18 false = false → Below W6.heap.size W6 w')) (IRelG 18 v0) (P9 H Bp W6.heap.size v0 hd L g2 q2 a0 a1 a2 c) ⟨grownBy_below' ((Below.refl _ _).drew), fun _ => (Below.refl _ _).drew⟩ (P9.stab HR6.out) ?_ ?_
    · have GN : ∀ (L : Array Bool) (i : Nat) (u : World), i ≠ 18 → (W6.grownBy u v0.ownBlock ∧ (L.getD 18 false = false → Below W6.heap.size W6 u)) → (W6.grownBy u v0.ownBlock ∧ ((L.setIfInBounds i true).getD 18 false = false → Below W6.heap.size W6 u)) := fun L i u hi h => ⟨h.1, fun e => h.2 (by rwa [getD_set_ne false hi] at e)⟩
      have HRR : ∀ i u, IRelG 18 v0 i u u := fun i u => ⟨fun _ => Below.refl _ _, grownBy_below' (Below.refl _ _)⟩
      have hBX : ∀ u, W6.grownBy u v0.ownBlock → u.heap[Bp]? = some (.cells #[v0, v1, v2, v3, v4, v5, v6, .int .i64 6, .map (some Mo), .map (some Mf)] 120 (0, 0)) := fun u hu => (HI6.out.keep (i := 0) rfl hu).1
      have hNU : ∀ u, W6.grownBy u v0.ownBlock → ∀ (j : Nat) (z : Value), (intCells (L ++ [0, 0, 0]))[j]? = some z → u.cell? (Addr.add ⟨g2, 0, none⟩ j) = some z := fun u hu j z hz => (World.cell?_of_block (hu.block _ (by rw [block_of_add]; exact HQ.out.1) (by rw [block_of_add]; exact fun e => Nat.lt_irrefl _ (Nat.lt_of_lt_of_le (HRL.out g2 e.symm) HQ.out.2.1)))).trans (HQ.out.2.2 j z hz)
      refine ⟨?_, ?_, ?_, ?_, ?_, ?_, ?_, ?_, ?_, ?_, ?_, ?_, ?_, ?_, ?_, ?_, ?_, ?_, ?_, ?_, ?_, ?_, trivial⟩
      · intro a' u listed hls hl0 hg hdp hs
        exact op_move rfl ((hs.2.2 0 (notDst2 (by kernel_rfl))).trans rfl) ⟨_, rfl, GN _ _ _ (by decide) hg, HRR _ _, fun h => (by cases h), rfl⟩
      · intro a' u listed hls hl0 hg hdp hs
        exact op_move rfl ((hs.2.2 0 (notDst2 (by kernel_rfl))).trans rfl) ⟨_, rfl, GN _ _ _ (by decide) hg, HRR _ _, fun h => (by cases h), rfl⟩
      · intro a' u listed hls hl0 hg hdp hs
        exact op_nilCheck rfl (hdp 1 (by kernel_rfl)) ⟨_, rfl, GN _ _ _ (by decide) hg, HRR _ _, fun h => (by cases h), rfl⟩
      · intro a' u listed hls hl0 hg hdp hs
        exact op_parser0 rfl (hdp 2 (by kernel_rfl)) ⟨_, rfl, GN _ _ _ (by decide) hg, HRR _ _, fun h => (by cases h), rfl⟩
      · intro a' u listed hls hl0 hg hdp hs
        exact op_fieldAddr rfl (hdp 3 (by kernel_rfl)) (by decide) ⟨_, rfl, GN _ _ _ (by decide) hg, HRR _ _, fun h => (by cases h), rfl⟩
      · intro a' u listed hls hl0 hg hdp hs
        exact op_load22 rfl (hdp 4 (by kernel_rfl)) (cell_of_row u _ 0 _ 120 (0, 0) (hBX u hg.1)) ⟨_, rfl, GN _ _ _ (by decide) hg, HRR _ _, fun h => (by cases h), rfl⟩
      · intro a' u listed hls hl0 hg hdp hs
        exact op_move rfl ((hs.2.2 16 (notDst2 (by kernel_rfl))).trans rfl) ⟨_, rfl, GN _ _ _ (by decide) hg, HRR _ _, fun h => (by cases h), rfl⟩
      · intro a' u listed hls hl0 hg hdp hs
        exact op_move rfl ((hs.2.2 19 (notDst2 (by kernel_rfl))).trans rfl) ⟨_, rfl, GN _ _ _ (by decide) hg, HRR _ _, fun h => (by cases h), rfl⟩
      · intro a' u listed hls hl0 hg hdp hs
        exact op_index28 (i := 0) rfl (hdp 7 (by kernel_rfl)) (by omega) ⟨_, rfl, GN _ _ _ (by decide) hg, HRR _ _, fun h => (by cases h), rfl⟩
      · intro a' u listed hls hl0 hg hdp hs
        exact op_loadA3 rfl (hdp 8 (by kernel_rfl)) (hNU u hg.1 0 _ HA0.out) ⟨_, rfl, GN _ _ _ (by decide) hg, HRR _ _, fun h => (by cases h), rfl⟩
      · intro a' u listed hls hl0 hg hdp hs
        exact op_move rfl ((hs.2.2 19 (notDst2 (by kernel_rfl))).trans rfl) ⟨_, rfl, GN _ _ _ (by decide) hg, HRR _ _, fun h => (by cases h), rfl⟩
      · intro a' u listed hls hl0 hg hdp hs
        exact op_index28 (i := 1) rfl (hdp 10 (by kernel_rfl)) (by omega) ⟨_, rfl, GN _ _ _ (by decide) hg, HRR _ _, fun h => (by cases h), rfl⟩
      · intro a' u listed hls hl0 hg hdp hs
        exact op_loadA3 rfl (hdp 11 (by kernel_rfl)) (hNU u hg.1 1 _ HA1.out) ⟨_, rfl, GN _ _ _ (by decide) hg, HRR _ _, fun h => (by cases h), rfl⟩
      · intro a' u listed hls hl0 hg hdp hs
        exact op_move rfl ((hs.2.2 19 (notDst2 (by kernel_rfl))).trans rfl) ⟨_, rfl, GN _ _ _ (by decide) hg, HRR _ _, fun h => (by cases h), rfl⟩
      · intro a' u listed hls hl0 hg hdp hs
        exact op_index28 (i := 2) rfl (hdp 13 (by kernel_rfl)) (by omega) ⟨_, rfl, GN _ _ _ (by decide) hg, HRR _ _, fun h => (by cases h), rfl⟩
      · intro a' u listed hls hl0 hg hdp hs
        exact op_loadA3 rfl (hdp 14 (by kernel_rfl)) (hNU u hg.1 2 _ HA2.out) ⟨_, rfl, GN _ _ _ (by decide) hg, HRR _ _, fun h => (by cases h), rfl⟩
      · intro a' u listed hls hl0 hg hdp hs
        exact op_build52 rfl (hdp 6 (by kernel_rfl)) (hdp 9 (by kernel_rfl)) (hdp 12 (by kernel_rfl)) (hdp 15 (by kernel_rfl)) ⟨_, rfl, GN _ _ _ (by decide) hg, HRR _ _, fun h => (by cases h), rfl⟩
      · intro a' u listed hls hl0 hg hdp hs
        have hal : Below u.heap.size u (u.alloc (.cells #[.int .i64 (opNum hd), .int .i64 a0, .int .i64 a1, .int .i64 a2] 52)) := (Below.refl _ u).alloc (Nat.le_refl _) _
        exact op_bs22 rfl (hdp 16 (by kernel_rfl)) ⟨_, rfl, ⟨grownBy_trans' hg.1 (grownBy_below' hal), fun e => (hg.2 (by rwa [getD_set_ne false (by decide)] at e)).trans (hal.mono hg.1.size)⟩, ⟨fun _ => hal, grownBy_below' hal⟩, fun h => (by cases h), u.heap.size, rfl, hg.1.size, heap_alloc_new u _⟩
      · intro a' u listed hls hl0 hg hdp hs
        obtain ⟨m, e, hm, hc⟩ := hdp 17 (by kernel_rfl)
        have hrow := own_below (HI6.out.rows 0 _ rfl) (hg.2 hl0)
        refine op_append elemInstr rfl _ v0 _ _ (hdp 5 (by kernel_rfl)) hrow _ m e rfl hc (one_of rfl) HRM.out (by have := HI6.out.hz; have := HBu.out; have := hg.1.size; omega) ?_
        intro v' w' ho hgr
        have hset : (listed.setIfInBounds 18 true).getD 18 false = true := by simp [hls]
        exact ⟨_, rfl, ⟨grownBy_trans' hg.1 hgr, fun e => by rw [hset] at e; cases e⟩, ⟨fun h => absurd rfl h, hgr⟩, fun h => (by cases h), ho⟩
      · intro a' u listed hls hl0 hg hdp hs
        exact op_nilCheck rfl (hdp 0 (by kernel_rfl)) ⟨_, rfl, GN _ _ _ (by decide) hg, HRR _ _, fun h => (by cases h), rfl⟩
      · intro a' u listed hls hl0 hg hdp hs
        exact op_parser0 rfl (hdp 19 (by kernel_rfl)) ⟨_, rfl, GN _ _ _ (by decide) hg, HRR _ _, fun h => (by cases h), rfl⟩
      · intro a' u listed hls hl0 hg hdp hs
        exact op_fieldAddr rfl (hdp 20 (by kernel_rfl)) (by decide) ⟨_, rfl, GN _ _ _ (by decide) hg, HRR _ _, fun h => (by cases h), rfl⟩
    · intro o ho a' u listed hg hp hs
      obtain rfl := Option.some.inj ho
      have p21 := hp 21 (by decide)
      have p18 := hp 18 (by decide)
      change u.ownsRow H 52 4 (a'.tmps.getD 75 undef) _ _ at p18
      have HP := Lib.hid (pst_push0 (x := ⟨opNum hd, a0, a1, a2⟩) HI6.out HS6.out p18 hg.1)
      have HBU := Lib.hid (((HBW.out.grown hg.1 (by have := HI6.out.hz; have := HBu.out; omega) (fun k e => ((HI6.out.rows 0 _ rfl).lt k e).1))).setCell 0 (a'.tmps.getD 75 undef))
      have hbx := (HI6.out.keep (i := 0) rfl hg.1).1
      refine op_put22 rfl p21 rfl (own_isSlice p18) (cell_of_row u Bp 0 _ 120 (0, 0) hbx) (frozen_row hbx) ?_
      have ha := act_all hs [57, 58, 59, 60, 61, 62, 63, 64, 65, 66, 67, 68, 69, 70, 71, 72, 73, 74, 75, 76, 77, 78] (by kernel_rfl) (by kernel_rfl)
      simp only [List.map_cons, List.map_nil] at ha
      generalize a'.tmps.getD 57 undef = t57 at ha
      generalize a'.tmps.getD 58 undef = t58 at ha
      generalize a'.tmps.getD 59 undef = t59 at ha
      generalize a'.tmps.getD 60 undef = t60 at ha
      generalize a'.tmps.getD 61 undef = t61 at ha
      generalize a'.tmps.getD 62 undef = t62 at ha
      generalize a'.tmps.getD 63 undef = t63 at ha
      generalize a'.tmps.getD 64 undef = t64 at ha
      generalize a'.tmps.getD 65 undef = t65 at ha
      generalize a'.tmps.getD 66 undef = t66 at ha
      generalize a'.tmps.getD 67 undef = t67 at ha
      generalize a'.tmps.getD 68 undef = t68 at ha
      generalize a'.tmps.getD 69 undef = t69 at ha
      generalize a'.tmps.getD 70 undef = t70 at ha
      generalize a'.tmps.getD 71 undef = t71 at ha
      generalize a'.tmps.getD 72 undef = t72 at ha
      generalize a'.tmps.getD 73 undef = t73 at ha
      generalize a'.tmps.getD 74 undef = t74 at ha
      generalize a'.tmps.getD 75 undef = t75 at ha HP HBU ⊢
      generalize a'.tmps.getD 76 undef = t76 at ha
      generalize a'.tmps.getD 77 undef = t77 at ha
      generalize a'.tmps.getD 78 undef = t78 at ha
      clear hp hg hbx p21 p18
      change Exit.inBlock _ _ .normal a' _
      rw [ha]
      simp only [List.foldl_cons, List.foldl_nil, Act.put, List.setIfInBounds_toArray, List.set_cons_succ, List.set_cons_zero]
      clear ha hs
      generalize u.setCell ⟨Bp, 0, none⟩ t75 = W7 at HP HBU ⊢
      go_wp2
      go_end0
      exact ⟨rfl, by rw [HIN.out]; exact HP.out, HBU.out⟩
end Go.Proofs.YtmfnholhhakgaaaGreatDoor
end
