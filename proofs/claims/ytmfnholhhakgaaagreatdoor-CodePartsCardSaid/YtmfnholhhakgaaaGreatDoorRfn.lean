/- The reference of chapter 14: the places of flags, and Next: contracts: as the program's. -/
import Derived.Test.YtmfnholhhakgaaaGreatDoorRch
import Derived.Test.YtmfnholhhakgaaaGreatDoorRfc
namespace Go.Proofs.YtmfnholhhakgaaaGreatDoor
open Go Go.Proofs Go.RowKit Go.Sort
set_option maxRecDepth 100000
/-- The places among the first k that are marked. -/
def mkL (bs : List Bool) (k : Nat) : List Int := ((List.range k).filter fun i => bs.getD i false).map fun i => ((i : Nat) : Int)
theorem mkL_succ (bs : List Bool) (k : Nat) : mkL bs (k + 1) = mkL bs k ++ (if bs.getD k false then [(k : Int)] else []) := by
  unfold mkL
  rw [List.range_succ, List.filter_append, List.map_append]
  have : ([k].filter fun i => bs.getD i false) = if bs.getD k false = true then [k] else [] := by simp only [List.filter_cons, List.filter_nil]
  rw [this]
  split <;> simp
theorem mkL_le (bs : List Bool) (k : Nat) : (mkL bs k).length ≤ k := by
  unfold mkL
  rw [List.length_map]
  exact Nat.le_trans (List.length_filter_le _ _) (by simp)
theorem mem_mkL {bs : List Bool} {z : Int} : z ∈ mkL bs bs.length ↔ ∃ i : Nat, z = i ∧ bs[i]? = some true := by
  unfold mkL
  simp only [List.mem_map, List.mem_filter, List.mem_range]
  constructor
  · rintro ⟨i, ⟨h1, h2⟩, rfl⟩
    refine ⟨i, rfl, ?_⟩
    rw [List.getD_eq_getElem?_getD, List.getElem?_eq_getElem h1] at h2
    rw [List.getElem?_eq_getElem h1]
    simpa using h2
  · rintro ⟨i, rfl, h⟩
    have hl := (List.getElem?_eq_some_iff.1 h).1
    exact ⟨i, ⟨hl, by rw [List.getD_eq_getElem?_getD, h]; rfl⟩, rfl⟩
theorem mkL_asc (bs : List Bool) (k : Nat) : (mkL bs k).Pairwise (· < ·) := by
  unfold mkL
  rw [List.pairwise_map]
  refine List.Pairwise.imp ?_ (List.Pairwise.filter _ List.pairwise_lt_range)
  intro a b h
  omega
set_option maxHeartbeats 2000000 in
theorem marks_any (A : Option Addr) (n cp : Nat) (bs : List Bool) (w : World) (hr : Reads w w.heap.size 1 A n (bs.map Value.bool)) (hn : n = bs.length) (hs : n ≤ 1000000) : Calls Tryz.prog 81 #[.slice A n cp] w (RetInts w (mkL bs bs.length)) := by
  have HR := Lib.hid hr
  have HN := Lib.hid hn
  clear hr hn
  go_enter Tryz.func81, Tryz.ntmps81
  go_wp2
  go_loopw [3, 4] (fun v i wr => ∃ k : Nat, k ≤ n ∧ i = .int .i64 k ∧ wr.ownsRow w.heap.size 3 1 v (mkL bs k).length ((mkL bs k).map (Value.int .i64)) ∧ Below w.heap.size w wr) (fun _ i _ => n - (intOf i).toNat)
  case atStart => exact ⟨0, by omega, rfl, World.ownsRow_nil _ _ _ _, Below.refl _ _⟩
  case round =>
    obtain ⟨k, hk, rfl, ho, hb⟩ := hrel
    have OO := Lib.hid ho
    have BB := Lib.hid hb
    clear ho hb
    by_cases hlt : k < n
    · obtain ⟨ad, b, rfl, hx, hab, c0⟩ := Reads.elem1 (f := Value.bool) (HR.out.below BB.out) HN.out hlt
      have HX := Lib.hid hx
      have hle := mkL_le bs k
      have hi1 : (k : Int) < (n : Int) := by omega
      have hi0 : (0 : Int) ≤ (k : Int) := by omega
      clear hx hab
      cases b with
      | true =>
        have HS : Hid (mkL bs (k + 1) = mkL bs k ++ [(k : Int)]) := Lib.hid (by rw [mkL_succ, List.getD_eq_getElem?_getD, HX.out]; rfl)
        go_wp2_with (first
          | (at_builtin; refine wpList_push elemInts rfl _ _ rfl w.heap.size _ _ _ rfl OO.out #[.int .i64 (k : Int)] _ rfl (by first | rfl | simp) rfl (fun u hu => by rcases List.mem_singleton.1 hu with rfl; rfl) (by omega) BB.out.size ?_; intro v1 w1 ho1 hb1; have O1 := Lib.hid ho1; have B1 := Lib.hid (BB.out.trans hb1); clear ho1 hb1))
        go_roundw
        case rel => exact ⟨k + 1, by omega, by go_num, by rw [HS.out, List.length_append, List.map_append]; exact O1.out, B1.out⟩
        case measure => simp [intOf]; omega
      | false =>
        have HS : Hid (mkL bs (k + 1) = mkL bs k) := Lib.hid (by rw [mkL_succ, List.getD_eq_getElem?_getD, HX.out]; simp)
        go_wp2
        go_roundw
        case rel => exact ⟨k + 1, by omega, by go_num, by rw [HS.out]; exact OO.out, BB.out⟩
        case measure => simp [intOf]; omega
    · obtain rfl : k = n := by omega
      go_wp2
      go_ret
      exact ⟨_, rfl, by rw [← HN.out]; exact OO.out, BB.out⟩
/-- The flags that the reference's Next sets. -/
def nxF (x : InstrD) (k n : Nat) : List Bool :=
  let z := List.replicate (n + 1) false
  if stopB x.op then z else if x.op == 47 then z.set x.a.toNat true else if x.op == 48 then (z.set x.a.toNat true).set (k + 1) true else z.set (k + 1) true
theorem nxF_len (x : InstrD) (k n : Nat) : (nxF x k n).length = n + 1 := by
  unfold nxF
  split
  · simp
  · split
    · simp
    · split <;> simp
theorem set_true {bs : List Bool} {k i : Nat} (hk : k < bs.length) : (bs.set k true)[i]? = some true ↔ i = k ∨ bs[i]? = some true := by
  by_cases e : k = i
  · subst e; rw [List.getElem?_set_self hk]; simp
  · rw [List.getElem?_set_ne e]
    constructor
    · exact .inr
    · rintro (h | h)
      · exact absurd h.symm e
      · exact h
theorem rep_true {n i : Nat} : (List.replicate n false)[i]? = some true ↔ False := by simp [List.getElem?_replicate]
theorem nx_eq {c : CodeD} (W : Well c) {x : InstrD} {k : Nat} (hx : c.instrs[k]? = some x) : mkL ((nxF x k c.instrs.length).take c.instrs.length) ((nxF x k c.instrs.length).take c.instrs.length).length = nextL x k c.instrs.length := by
  have hkn := (List.getElem?_eq_some_iff.1 hx).1
  have hxm := List.mem_of_getElem? hx
  refine asc_ext (mkL_asc _ _) ?_ fun z => ?_
  · unfold nextL
    split
    · simp
    · split
      · simp
      · exact cs_lt _
  · rw [mem_mkL]
    have ht : ∀ i : Nat, ((nxF x k c.instrs.length).take c.instrs.length)[i]? = some true ↔ i < c.instrs.length ∧ (nxF x k c.instrs.length)[i]? = some true := fun i => by
      rw [List.getElem?_take]
      split
      · simp [*]
      · simp; omega
    unfold nxF nextL at *
    cases h1 : stopB x.op with
    | true => simp [List.getElem?_replicate]
    | false =>
      simp only [h1, Bool.false_eq_true, if_false] at ht ⊢
      cases h2 : x.op == 47 with
      | true =>
        obtain ⟨j, hj, hjn⟩ := jump_pl W hxm (.inl (by simpa using h2))
        simp only [h2, if_true] at ht ⊢
        constructor
        · rintro ⟨i, rfl, hi⟩
          rw [ht, set_true (by simp; omega), rep_true] at hi
          obtain ⟨_, hi2⟩ := hi
          rcases hi2 with e | e
          · simp only [List.mem_singleton]; omega
          · exact e.elim
        · intro hz
          refine ⟨j, by simp at hz; omega, ?_⟩
          rw [ht, set_true (by simp; omega)]
          exact ⟨hjn, .inl (by omega)⟩
      | false =>
        simp only [h2, Bool.false_eq_true, if_false] at ht ⊢
        rw [mem_cs]
        unfold nextRaw
        cases h3 : x.op == 48 with
        | true =>
          obtain ⟨j, hj, hjn⟩ := jump_pl W hxm (.inr (by simpa using h3))
          simp only [h3, if_true] at ht ⊢
          constructor
          · rintro ⟨i, rfl, hi⟩
            rw [ht, set_true (by simp; omega), set_true (by simp; omega), rep_true] at hi
            obtain ⟨hi1, hi2⟩ := hi
            simp only [List.mem_append, List.mem_singleton]
            rcases hi2 with e | e | e
            · right; rw [if_pos (by omega)]; simp; omega
            · left; omega
            · exact e.elim
          · intro hz
            rcases List.mem_append.1 hz with h | h
            · refine ⟨j, by simp at h; omega, ?_⟩
              rw [ht, set_true (by simp; omega), set_true (by simp; omega)]
              exact ⟨hjn, .inr (.inl (by omega))⟩
            · split at h
              · refine ⟨k + 1, by simp at h; omega, ?_⟩
                rw [ht, set_true (by simp; omega)]
                exact ⟨by omega, .inl rfl⟩
              · simp at h
        | false =>
          simp only [h3, Bool.false_eq_true, if_false] at ht ⊢
          constructor
          · rintro ⟨i, rfl, hi⟩
            rw [ht, set_true (by simp; omega), rep_true] at hi
            obtain ⟨hi1, hi2⟩ := hi
            rcases hi2 with e | e
            · rw [if_pos (by omega)]; simp; omega
            · exact e.elim
          · intro hz
            rw [List.nil_append] at hz
            split at hz
            · refine ⟨k + 1, by simp at hz; omega, ?_⟩
              rw [ht, set_true (by simp; omega)]
              exact ⟨by omega, .inl rfl⟩
            · simp at hz
/-- Flags in block G, a code in block N, an instruction in block N + 1. -/
structure FInv (N G : Nat) (h : CodeH) (x : InstrD) (w wr : World) (n : Nat) (bs : List Bool) : Prop where
  x : XInv N h x w wr
  g : N + 1 < G
  o : wr.ownsRow N 4 1 (.slice (some ⟨G, 0, none⟩) n n) n (bs.map Value.bool)
theorem FInv.set {N G n : Nat} {h : CodeH} {x : InstrD} {w wr : World} {bs : List Bool} (H : FInv N G h x w wr n bs) (k : Nat) : FInv N G h x w (wr.setCell ⟨G, k, none⟩ (.bool true)) n (bs.set k true) := by
  obtain ⟨h1, _⟩ := H.o.stored k (.bool true)
  exact { x := H.x.to ((Below.refl _ _).setCell (by show N + 2 ≤ G; have := H.g; omega) _), g := H.g, o := by rw [List.map_set]; exact h1 }
theorem FInv.at {N G n k : Nat} {h : CodeH} {x : InstrD} {w wr : World} {bs : List Bool} (H : FInv N G h x w wr n bs) (hl : bs.length = n) (hk : k < n) : ∃ b, wr.cell? ⟨G, k, none⟩ = some (.bool b) := by
  rw [H.o.cellAt k (by omega), List.getElem?_map, List.getElem?_eq_getElem (by omega)]
  exact ⟨_, rfl⟩
theorem FInv.fin {N G n : Nat} {h : CodeH} {x : InstrD} {w wr : World} {bs : List Bool} (H : FInv N G h x w wr (n + 1) bs) (_hl : bs.length = n + 1) : Reads wr wr.heap.size 1 (some ⟨G, 0, none⟩) n ((bs.take n).map Value.bool) := by
  have := own_cut H.o n (by omega) (by omega)
  rw [Nat.mul_one, ← List.map_take] at this
  exact Reads.of_own this
theorem ret_ints {w wr w' : World} {l m : List Int} {e : Ending} (hb : Below w.heap.size w wr) (h : RetInts wr l e w') (he : l = m) : RetInts w m e w' := by
  subst he
  obtain ⟨v, h1, h2, h3⟩ := h
  exact ⟨v, h1, own_mono h2 hb.size, hb.trans (h3.mono hb.size)⟩
set_option maxHeartbeats 4000000 in
theorem rNext_any (h : CodeH) (c : CodeD) (w : World) (H : CodeAt w w.heap.size h c) (hf : fineB c (largeB h) = true) (k : Nat) (x : InstrD) (hx : c.instrs[k]? = some x) (hk : k < h.i.n) :
    Calls Tryz.prog 38 #[.agg #[.slice h.i.a h.i.n h.i.c, .slice h.p.a h.p.n h.p.c, .slice h.t.a h.t.n h.t.c, .slice h.s.a h.s.n h.s.c, .slice h.g.a h.g.n h.g.c, .slice h.r.a h.r.n h.r.c, .slice h.o.a h.o.n h.o.c], .int .i64 k] w
      (RetInts w (nextL x k h.i.n)) := by
  obtain ⟨hl, W⟩ := fine_well hf
  obtain ⟨hn0, hn1, _⟩ := large_sizes hl
  have HN := Lib.hid H.ni.1
  have HE := Lib.hid (nx_eq W hx)
  rw [← HN.out] at HE
  have X0 := Lib.hid (XInv.start h x w)
  have HJ := Lib.hid (fun ho => jump_pl W (List.mem_of_getElem? hx) ho)
  obtain ⟨i0, hi0, hz0, hz1, hz2⟩ := elemBools.i
  obtain ⟨ad, x', had, hx', hab, hc⟩ := Reads.elem (f := InstrD.cells) (fun _ => rfl) H.i H.ni.1 hk
  rw [hx] at hx'
  cases hx'
  have hcw : ∀ (j : Nat) (o : Obj) v, j < 4 → (InstrD.cells x)[j]? = some v → (w.alloc o).cell? ((ad.add (k * 4)).add j) = some v := fun j o v hj hv => (World.cell?_alloc_lt _ _ _ (by rw [block_of_add, block_of_add]; exact hab)).trans (hc j v hj hv)
  have c0 := hcw 0 (.cells #[.slice h.i.a h.i.n h.i.c, .slice h.p.a h.p.n h.p.c, .slice h.t.a h.t.n h.t.c, .slice h.s.a h.s.n h.s.c, .slice h.g.a h.g.n h.g.c, .slice h.r.a h.r.n h.r.c, .slice h.o.a h.o.n h.o.c] 30) _ (by omega) rfl
  have c1 := hcw 1 (.cells #[.slice h.i.a h.i.n h.i.c, .slice h.p.a h.p.n h.p.c, .slice h.t.a h.t.n h.t.c, .slice h.s.a h.s.n h.s.c, .slice h.g.a h.g.n h.g.c, .slice h.r.a h.r.n h.r.c, .slice h.o.a h.o.n h.o.c] 30) _ (by omega) rfl
  have c2 := hcw 2 (.cells #[.slice h.i.a h.i.n h.i.c, .slice h.p.a h.p.n h.p.c, .slice h.t.a h.t.n h.t.c, .slice h.s.a h.s.n h.s.c, .slice h.g.a h.g.n h.g.c, .slice h.r.a h.r.n h.r.c, .slice h.o.a h.o.n h.o.c] 30) _ (by omega) rfl
  have c3 := hcw 3 (.cells #[.slice h.i.a h.i.n h.i.c, .slice h.p.a h.p.n h.p.c, .slice h.t.a h.t.n h.t.c, .slice h.s.a h.s.n h.s.c, .slice h.g.a h.g.n h.g.c, .slice h.r.a h.r.n h.r.c, .slice h.o.a h.o.n h.o.c] 30) _ (by omega) rfl
  rw [show (ad.add (k * 4)).add 0 = ad.add (k * 4) from rfl] at c0
  rw [show (ad.add (k * 4)).add 1 = { block := (ad.add (k * 4)).block, off := (ad.add (k * 4)).off + 1 } from rfl] at c1
  rw [show (ad.add (k * 4)).add 2 = { block := (ad.add (k * 4)).block, off := (ad.add (k * 4)).off + 2 } from rfl] at c2
  rw [show (ad.add (k * 4)).add 3 = { block := (ad.add (k * 4)).block, off := (ad.add (k * 4)).off + 3 } from rfl] at c3
  rw [had] at c0 c1 c2 c3 X0 ⊢
  have HAD := Lib.hid had
  clear hx hcw hc hab had H hf W hl
  have hd : stopB x.op = true ∨ x.op = 47 ∨ x.op = 48 ∨ (stopB x.op = false ∧ (x.op == 47) = false ∧ (x.op == 48) = false) := by
    cases h1 : stopB x.op with
    | true => exact .inl rfl
    | false =>
      by_cases h2 : x.op = 47
      · exact .inr (.inl h2)
      · by_cases h3 : x.op = 48
        · exact .inr (.inr (.inl h3))
        · exact .inr (.inr (.inr ⟨rfl, by simpa using h2, by simpa using h3⟩))
  rcases hd with h1 | h1 | h1 | ⟨h1, h2, h3⟩
  · have hs : x.op = 1 ∨ x.op = 24 ∨ x.op = 25 ∨ x.op = 53 := by unfold stopB at h1; simp at h1; omega
    have HF : Hid (nxF x k h.i.n = List.replicate (h.i.n + 1) false) := Lib.hid (by unfold nxF; rw [h1]; rfl)
    clear h1
    rcases hs with h1 | h1 | h1 | h1
    all_goals
      have H1 := Lib.hid h1
      clear h1
      go_enter Tryz.func38, Tryz.ntmps38
      go_wp2_with (first
        | (at_make; refine wpList_make_full _ rfl _ _ 66 rfl w.heap.size 4 i0 (.bool false) 1 Tryz.underlying66 hi0 hz0 hz1 .i64 .i64 _ _ (h.i.n + 1) rfl rfl rfl rfl (by rw [hz2]; omega) (by unfold maxLen; omega) (by simp; omega) ?_; intro w2 ho2 hg2; rw [made_bools] at ho2; have X2 := Lib.hid (X0.out.below ((Below.refl _ _).grown hg2 (Nat.le_refl _) (fun k hk => by cases hk))); simp only [World.size_alloc] at ho2; have F2 : Hid (FInv w.heap.size (w.heap.size + 1 + 1) h x w w2 (h.i.n + 1) (List.replicate (h.i.n + 1) false)) := Lib.hid ⟨X2.out, by omega, ho2⟩; clear ho2 hg2; have y0 := X2.out.b.c0; have d0 := X2.out.d0; have d1 := X2.out.d1; rw [H1.out] at d0; )
        | (go_at_call 81; refine (marks_any _ h.i.n _ ((List.replicate (h.i.n + 1) false).take h.i.n) _ ((F2.out).fin (by simp)) (by simp) (by omega)).mono ?_; rintro e w9 ⟨v9, rfl, ho9, hb9⟩; have O9 := Lib.hid (own_mono ho9 (F2.out).x.b.b.size); have B9 := Lib.hid ((F2.out).x.b.b.trans (hb9.mono (F2.out).x.b.b.size)); clear ho9 hb9))
      go_ret
      exact ⟨v9, rfl, by have h9 := O9.out; rw [← HF.out, HE.out] at h9; exact h9, B9.out⟩
  · obtain ⟨j, hj, hjn⟩ := HJ.out (.inl h1)
    have hjh : j < h.i.n + 1 := by have := HN.out; omega
    have hj2 : (j : Int) < (h.i.n : Int) + 1 := by omega
    have HF : Hid (nxF x k h.i.n = (List.replicate (h.i.n + 1) false).set j true) := Lib.hid (by unfold nxF; rw [h1, hj]; rfl)
    have H1 := Lib.hid h1
    have H2 := Lib.hid hj
    clear h1 hj
    go_enter Tryz.func38, Tryz.ntmps38
    go_wp2_with (first
      | (at_make; refine wpList_make_full _ rfl _ _ 66 rfl w.heap.size 4 i0 (.bool false) 1 Tryz.underlying66 hi0 hz0 hz1 .i64 .i64 _ _ (h.i.n + 1) rfl rfl rfl rfl (by rw [hz2]; omega) (by unfold maxLen; omega) (by simp; omega) ?_; intro w2 ho2 hg2; rw [made_bools] at ho2; have X2 := Lib.hid (X0.out.below ((Below.refl _ _).grown hg2 (Nat.le_refl _) (fun k hk => by cases hk))); simp only [World.size_alloc] at ho2; have F2 : Hid (FInv w.heap.size (w.heap.size + 1 + 1) h x w w2 (h.i.n + 1) (List.replicate (h.i.n + 1) false)) := Lib.hid ⟨X2.out, by omega, ho2⟩; clear ho2 hg2; have y0 := X2.out.b.c0; have d0 := X2.out.d0; have d1 := X2.out.d1; rw [H1.out] at d0; rw [H2.out] at d1; have f1 := F2.out.o.frozenAt j; obtain ⟨b1, q1⟩ := F2.out.at (by simp) hjh)
      | (go_at_call 81; refine (marks_any _ h.i.n _ (((List.replicate (h.i.n + 1) false).set j true).take h.i.n) _ ((F2.out.set j).fin (by simp)) (by simp) (by omega)).mono ?_; rintro e w9 ⟨v9, rfl, ho9, hb9⟩; have O9 := Lib.hid (own_mono ho9 (F2.out.set j).x.b.b.size); have B9 := Lib.hid ((F2.out.set j).x.b.b.trans (hb9.mono (F2.out.set j).x.b.b.size)); clear ho9 hb9))
    go_ret
    exact ⟨v9, rfl, by have h9 := O9.out; rw [← HF.out, HE.out] at h9; exact h9, B9.out⟩
  · obtain ⟨j, hj, hjn⟩ := HJ.out (.inr h1)
    have hjh : j < h.i.n + 1 := by have := HN.out; omega
    have hj2 : (j : Int) < (h.i.n : Int) + 1 := by omega
    have hk1 : k + 1 < h.i.n + 1 := by omega
    have hk2 : (k : Int) + 1 < (h.i.n : Int) + 1 := by omega
    have HF : Hid (nxF x k h.i.n = ((List.replicate (h.i.n + 1) false).set j true).set (k + 1) true) := Lib.hid (by unfold nxF; rw [h1, hj]; rfl)
    have H1 := Lib.hid h1
    have H2 := Lib.hid hj
    clear h1 hj
    go_enter Tryz.func38, Tryz.ntmps38
    go_wp2_with (first
      | (at_make; refine wpList_make_full _ rfl _ _ 66 rfl w.heap.size 4 i0 (.bool false) 1 Tryz.underlying66 hi0 hz0 hz1 .i64 .i64 _ _ (h.i.n + 1) rfl rfl rfl rfl (by rw [hz2]; omega) (by unfold maxLen; omega) (by simp; omega) ?_; intro w2 ho2 hg2; rw [made_bools] at ho2; have X2 := Lib.hid (X0.out.below ((Below.refl _ _).grown hg2 (Nat.le_refl _) (fun k hk => by cases hk))); simp only [World.size_alloc] at ho2; have F2 : Hid (FInv w.heap.size (w.heap.size + 1 + 1) h x w w2 (h.i.n + 1) (List.replicate (h.i.n + 1) false)) := Lib.hid ⟨X2.out, by omega, ho2⟩; clear ho2 hg2; have y0 := X2.out.b.c0; have d0 := X2.out.d0; have d1 := X2.out.d1; rw [H1.out] at d0; rw [H2.out] at d1; have f1 := F2.out.o.frozenAt j; obtain ⟨b1, q1⟩ := F2.out.at (by simp) hjh; have f2 := (F2.out.set j).o.frozenAt (k + 1); obtain ⟨b2, q2⟩ := (F2.out.set j).at (by simp) hk1)
      | (go_at_call 81; refine (marks_any _ h.i.n _ ((((List.replicate (h.i.n + 1) false).set j true).set (k + 1) true).take h.i.n) _ (((F2.out.set j).set (k + 1)).fin (by simp)) (by simp) (by omega)).mono ?_; rintro e w9 ⟨v9, rfl, ho9, hb9⟩; have O9 := Lib.hid (own_mono ho9 ((F2.out.set j).set (k + 1)).x.b.b.size); have B9 := Lib.hid (((F2.out.set j).set (k + 1)).x.b.b.trans (hb9.mono ((F2.out.set j).set (k + 1)).x.b.b.size)); clear ho9 hb9))
    go_ret
    exact ⟨v9, rfl, by have h9 := O9.out; rw [← HF.out, HE.out] at h9; exact h9, B9.out⟩
  · have hk1 : k + 1 < h.i.n + 1 := by omega
    have hk2 : (k : Int) + 1 < (h.i.n : Int) + 1 := by omega
    have HF : Hid (nxF x k h.i.n = (List.replicate (h.i.n + 1) false).set (k + 1) true) := Lib.hid (by unfold nxF; rw [h1, h2, h3]; rfl)
    have e1 : (x.op == 1) = false := by unfold stopB at h1; simp at h1 ⊢; omega
    have e2 : (x.op == 24) = false := by unfold stopB at h1; simp at h1 ⊢; omega
    have e3 : (x.op == 25) = false := by unfold stopB at h1; simp at h1 ⊢; omega
    have e4 : (x.op == 53) = false := by unfold stopB at h1; simp at h1 ⊢; omega
    clear h1
    go_enter Tryz.func38, Tryz.ntmps38
    go_wp2_with (first
      | (at_make; refine wpList_make_full _ rfl _ _ 66 rfl w.heap.size 4 i0 (.bool false) 1 Tryz.underlying66 hi0 hz0 hz1 .i64 .i64 _ _ (h.i.n + 1) rfl rfl rfl rfl (by rw [hz2]; omega) (by unfold maxLen; omega) (by simp; omega) ?_; intro w2 ho2 hg2; rw [made_bools] at ho2; have X2 := Lib.hid (X0.out.below ((Below.refl _ _).grown hg2 (Nat.le_refl _) (fun k hk => by cases hk))); simp only [World.size_alloc] at ho2; have F2 : Hid (FInv w.heap.size (w.heap.size + 1 + 1) h x w w2 (h.i.n + 1) (List.replicate (h.i.n + 1) false)) := Lib.hid ⟨X2.out, by omega, ho2⟩; clear ho2 hg2; have y0 := X2.out.b.c0; have d0 := X2.out.d0; have d1 := X2.out.d1; have f2 := F2.out.o.frozenAt (k + 1); obtain ⟨b2, q2⟩ := F2.out.at (by simp) hk1)
      | (go_at_call 81; refine (marks_any _ h.i.n _ (((List.replicate (h.i.n + 1) false).set (k + 1) true).take h.i.n) _ ((F2.out.set (k + 1)).fin (by simp)) (by simp) (by omega)).mono ?_; rintro e w9 ⟨v9, rfl, ho9, hb9⟩; have O9 := Lib.hid (own_mono ho9 (F2.out.set (k + 1)).x.b.b.size); have B9 := Lib.hid ((F2.out.set (k + 1)).x.b.b.trans (hb9.mono (F2.out.set (k + 1)).x.b.b.size)); clear ho9 hb9))
    go_ret
    exact ⟨v9, rfl, by have h9 := O9.out; rw [← HF.out, HE.out] at h9; exact h9, B9.out⟩
end Go.Proofs.YtmfnholhhakgaaaGreatDoor
