/- Entries; what a well-formed code is. -/
import Derived.Test.YtmfnholhhakgaaaGreatDoorMhg
section
namespace Go.Proofs.YtmfnholhhakgaaaGreatDoor
open Go Go.Proofs Go.RowKit Go.Sort

def thunkL (t : ThunkD) : List Int := [t.value, t.address, t.desig].filter fun n => decide (0 ≤ n)
def labL (x : InstrD) : List Int := if x.op == 20 then [x.a] else []
/-- What entries gathers. -/
def entRaw (c : CodeD) : List Int := [0] ++ c.procs.flatMap (fun p => [p.entry]) ++ c.thunks.flatMap thunkL ++ c.switches.flatMap id ++ c.instrs.flatMap labL
/-- What entries returns. -/
def entL (c : CodeD) : List Int := Lib.compact (sortL (entRaw c))

theorem take_flat_succ {α : Type} (f : α → List Int) {l : List α} {k : Nat} {x : α} (hx : l[k]? = some x) : (l.take (k + 1)).flatMap f = (l.take k).flatMap f ++ f x := by
  rw [List.take_add_one, hx]
  simp [List.flatMap_append]
theorem take_flat_all {α : Type} (f : α → List Int) {l : List α} {k : Nat} (h : k = l.length) : (l.take k).flatMap f = l.flatMap f := by
  rw [h, List.take_length]

/-- The state of entries: the code in its box, the list gathered so far. -/
structure EInv (N : Nat) (h : CodeH) (w wr : World) (v : Value) (l : List Int) : Prop where
  x : BInv N h w wr
  o : wr.ownsRow (N + 1) 3 1 v l.length (l.map (Value.int .i64))
theorem BInv.to {N : Nat} {h : CodeH} {w wr wx : World} (H : BInv N h w wr) (hb : Below (N + 1) wr wx) : BInv N h w wx :=
  { b := H.b.trans (hb.mono (by omega)), z := Nat.le_trans H.z hb.size
    c0 := (hb.cell (p := ⟨N, 0, none⟩) (by simp)).trans H.c0, c1 := (hb.cell (p := ⟨N, 1, none⟩) (by simp)).trans H.c1, c2 := (hb.cell (p := ⟨N, 2, none⟩) (by simp)).trans H.c2
    c3 := (hb.cell (p := ⟨N, 3, none⟩) (by simp)).trans H.c3, c4 := (hb.cell (p := ⟨N, 4, none⟩) (by simp)).trans H.c4, c5 := (hb.cell (p := ⟨N, 5, none⟩) (by simp)).trans H.c5
    c6 := (hb.cell (p := ⟨N, 6, none⟩) (by simp)).trans H.c6 }
theorem BInv.alloc {N : Nat} {h : CodeH} {w wr : World} (H : BInv N h w wr) (o : Obj) : BInv N h w (wr.alloc o) := H.to ((Below.refl _ _).alloc H.z o)
theorem EInv.alloc {N : Nat} {h : CodeH} {w wr : World} {v : Value} {l : List Int} (H : EInv N h w wr v l) (o : Obj) : EInv N h w (wr.alloc o) v l := ⟨H.x.alloc o, H.o.alloc o⟩
theorem EInv.push {N : Nat} {h : CodeH} {w wr wx : World} {v v' : Value} {l l' : List Int} {y : Int} (H : EInv N h w wr v l) (ho : wx.ownsRow (N + 1) 3 1 v' (l.length + 1) (l.map (Value.int .i64) ++ #[Value.int .i64 y].toList)) (hb : Below (N + 1) wr wx) (hl : l' = l ++ [y]) : EInv N h w wx v' l' := by
  subst hl
  exact ⟨H.x.to hb, by simpa using ho⟩
theorem EInv.run {N : Nat} {h : CodeH} {w wr wx : World} {v v' : Value} {l l' ys : List Int} {m : Nat} (H : EInv N h w wr v l) (hm : m = ys.length) (ho : wx.ownsRow (N + 1) 3 1 v' (l.length + m) (l.map (Value.int .i64) ++ intCells ys)) (hb : Below (N + 1) wr wx) (hl : l' = l ++ ys) : EInv N h w wx v' l' := by
  subst hl hm
  exact ⟨H.x.to hb, by simpa [intCells] using ho⟩
theorem EInv.cast {N : Nat} {h : CodeH} {w wr : World} {v : Value} {l l' : List Int} (H : EInv N h w wr v l) (e : l' = l) : EInv N h w wr v l' := e ▸ H

theorem flat_le {α : Type} (f : α → List Int) (b : Nat) (hf : ∀ x, (f x).length ≤ b) : ∀ l : List α, (l.flatMap f).length ≤ l.length * b
  | [] => by simp
  | x :: l => by
    have h1 := hf x
    have h2 := flat_le f b hf l
    rw [List.flatMap_cons, List.length_append, List.length_cons, Nat.succ_mul]
    omega
theorem flat_take_le {α : Type} (f : α → List Int) (l : List α) (k : Nat) : ((l.take k).flatMap f).length ≤ (l.flatMap f).length := by
  conv => rhs; rw [← List.take_append_drop k l]
  rw [List.flatMap_append, List.length_append]
  omega
theorem thunkL_le (x : ThunkD) : (thunkL x).length ≤ 3 := List.length_filter_le _ _
theorem labL_le (x : InstrD) : (labL x).length ≤ 1 := by unfold labL; split <;> simp
/-- What bounds the lists: of a well-formed code. -/
structure EntB (c : CodeD) : Prop where
  p : c.procs.length ≤ 1000000
  t : c.thunks.length ≤ 1000000
  i : c.instrs.length ≤ 1000000
  s : (c.switches.flatMap id).length ≤ 1000000000
  ne : ∀ l ∈ c.switches, l ≠ []
def lp (c : CodeD) (k : Nat) : List Int := [0] ++ (c.procs.take k).flatMap (fun p => [p.entry])
def lt (c : CodeD) (k : Nat) : List Int := [0] ++ c.procs.flatMap (fun p => [p.entry]) ++ (c.thunks.take k).flatMap thunkL
def ls (c : CodeD) (k : Nat) : List Int := [0] ++ c.procs.flatMap (fun p => [p.entry]) ++ c.thunks.flatMap thunkL ++ (c.switches.take k).flatMap id
def li (c : CodeD) (k : Nat) : List Int := [0] ++ c.procs.flatMap (fun p => [p.entry]) ++ c.thunks.flatMap thunkL ++ c.switches.flatMap id ++ (c.instrs.take k).flatMap labL
theorem EntB.fp {c : CodeD} (H : EntB c) : (c.procs.flatMap fun p => [p.entry]).length ≤ 1000000 := by
  have := flat_le (fun p : ProcD => [p.entry]) 1 (fun _ => by simp) c.procs
  have := H.p
  omega
theorem EntB.ft {c : CodeD} (H : EntB c) : (c.thunks.flatMap thunkL).length ≤ 3000000 := by
  have := flat_le thunkL 3 thunkL_le c.thunks
  have := H.t
  omega
theorem EntB.fi {c : CodeD} (H : EntB c) : (c.instrs.flatMap labL).length ≤ 1000000 := by
  have := flat_le labL 1 labL_le c.instrs
  have := H.i
  omega
theorem lp_le {c : CodeD} (H : EntB c) (k : Nat) : (lp c k).length ≤ 2000000 := by
  unfold lp
  have := flat_take_le (fun p : ProcD => [p.entry]) c.procs k
  have := H.fp
  simp only [List.length_append, List.length_singleton]
  omega
theorem lt_le {c : CodeD} (H : EntB c) (k : Nat) : (lt c k).length ≤ 5000000 := by
  unfold lt
  have := flat_take_le thunkL c.thunks k
  have := H.fp
  have := H.ft
  simp only [List.length_append, List.length_singleton]
  omega
theorem ls_le {c : CodeD} (H : EntB c) (k : Nat) : (ls c k).length ≤ 2000000000 := by
  unfold ls
  have := flat_take_le id c.switches k
  have := H.fp
  have := H.ft
  have := H.s
  simp only [List.length_append, List.length_singleton]
  omega
theorem li_le {c : CodeD} (H : EntB c) (k : Nat) : (li c k).length ≤ 3000000000 := by
  unfold li
  have := flat_take_le labL c.instrs k
  have := H.fp
  have := H.ft
  have := H.s
  have := H.fi
  simp only [List.length_append, List.length_singleton]
  omega
theorem lp_zero (c : CodeD) : lp c 0 = [0] := by simp [lp]
theorem lp_succ {c : CodeD} {k : Nat} {x : ProcD} (hx : c.procs[k]? = some x) : lp c (k + 1) = lp c k ++ [x.entry] := by unfold lp; rw [take_flat_succ _ hx, List.append_assoc]
theorem lt_zero {c : CodeD} {k : Nat} (h : k = c.procs.length) : lt c 0 = lp c k := by unfold lt lp; rw [take_flat_all _ h]; simp
theorem lt_succ {c : CodeD} {k : Nat} {x : ThunkD} (hx : c.thunks[k]? = some x) : lt c (k + 1) = lt c k ++ thunkL x := by unfold lt; rw [take_flat_succ _ hx, ← List.append_assoc]
theorem ls_zero {c : CodeD} {k : Nat} (h : k = c.thunks.length) : ls c 0 = lt c k := by unfold ls lt; rw [take_flat_all _ h]; simp
theorem ls_succ {c : CodeD} {k : Nat} {x : List Int} (hx : c.switches[k]? = some x) : ls c (k + 1) = ls c k ++ x := by unfold ls; rw [take_flat_succ _ hx, ← List.append_assoc]; rfl
theorem li_zero {c : CodeD} {k : Nat} (h : k = c.switches.length) : li c 0 = ls c k := by unfold li ls; rw [take_flat_all _ h]; simp
theorem li_lab {c : CodeD} {k : Nat} {x : InstrD} (hx : c.instrs[k]? = some x) (h : (x.op == 20) = true) : li c (k + 1) = li c k ++ [x.a] := by
  unfold li; rw [take_flat_succ _ hx, ← List.append_assoc]; unfold labL; rw [h]; rfl
theorem li_non {c : CodeD} {k : Nat} {x : InstrD} (hx : c.instrs[k]? = some x) (h : (x.op == 20) = false) : li c (k + 1) = li c k := by
  unfold li; rw [take_flat_succ _ hx, ← List.append_assoc]; unfold labL; rw [h]; simp
theorem li_all {c : CodeD} {k : Nat} (h : k = c.instrs.length) : li c k = entRaw c := by unfold li entRaw; rw [take_flat_all _ h]
/-- The thunk's places that are not left out, the first m of them. -/
def tl (x : ThunkD) (m : Nat) : List Int := ([x.value, x.address, x.desig].take m).filter fun n => decide (0 ≤ n)
theorem tl_in (P : List Int) (x : ThunkD) (m : Nat) (y : Int) (hy : [x.value, x.address, x.desig][m]? = some y) (h : 0 ≤ y) : P ++ tl x (m + 1) = P ++ tl x m ++ [y] := by
  unfold tl
  rw [List.take_add_one, hy, List.filter_append, ← List.append_assoc]
  simp [h]
theorem tl_out (P : List Int) (x : ThunkD) (m : Nat) (y : Int) (hy : [x.value, x.address, x.desig][m]? = some y) (h : ¬ 0 ≤ y) : P ++ tl x (m + 1) = P ++ tl x m := by
  unfold tl
  rw [List.take_add_one, hy, List.filter_append, ← List.append_assoc]
  simp [h]
theorem tl_le (x : ThunkD) (m : Nat) : (tl x m).length ≤ 3 := Nat.le_trans (List.length_filter_le _ _) (by simp; omega)

set_option maxHeartbeats 8000000 in
theorem entries_any (h : CodeH) (c : CodeD) (w : World) (H : CodeAt w w.heap.size h c) (E : EntB c) :
    Calls Tryz.prog 78 #[.agg #[.slice h.i.a h.i.n h.i.c, .slice h.p.a h.p.n h.p.c, .slice h.t.a h.t.n h.t.c, .slice h.s.a h.s.n h.s.c, .slice h.g.a h.g.n h.g.c, .slice h.r.a h.r.n h.r.c, .slice h.o.a h.o.n h.o.c]] w
      (RetInts w (entL c)) := by
  have HC := Lib.hid H
  have E0 : Hid (EInv w.heap.size h w ((w.alloc (.cells #[.slice h.i.a h.i.n h.i.c, .slice h.p.a h.p.n h.p.c, .slice h.t.a h.t.n h.t.c, .slice h.s.a h.s.n h.s.c, .slice h.g.a h.g.n h.g.c, .slice h.r.a h.r.n h.r.c, .slice h.o.a h.o.n h.o.c] 30)).alloc (.cells #[.int .i64 0] 3)) (.slice (some ⟨w.heap.size + 1, 0, none⟩) 1 1) (lp c 0)) :=
    Lib.hid ⟨(BInv.start h w 30).alloc _, by rw [lp_zero]; exact own_lit #[.int .i64 0] 1 _ (by simp) (by omega) (by decide) rfl⟩
  have EB := Lib.hid E
  clear H E
  go_enter Tryz.func78, Tryz.ntmps78
  go_wp2
  go_loopw [3, 18] (fun v i wr => ∃ k : Nat, k ≤ h.p.n ∧ i = .int .i64 k ∧ EInv w.heap.size h w wr v (lp c k)) (fun _ i _ => h.p.n - (intOf i).toNat)
  case atStart => exact ⟨0, by omega, rfl, E0.out⟩
  case round =>
    obtain ⟨k, hk, rfl, hT⟩ := hrel
    have HT := Lib.hid hT
    clear hT E0
    by_cases hlt : k < h.p.n
    · have hn : h.p.n ≤ 140737488351232 := HC.out.np.2
      obtain ⟨ad, x, had, hx, hab, hc⟩ := Reads.elem (f := ProcD.cells) (fun _ => rfl) (HC.out.p.below HT.out.x.b) HC.out.np.1 hlt
      have c0 := hc 0 _ (by omega) rfl
      have c1 := hc 1 _ (by omega) rfl
      have c2 := hc 2 _ (by omega) rfl
      have c3 := hc 3 _ (by omega) rfl
      have c4 := hc 4 _ (by omega) rfl
      rw [show (ad.add (k * 5)).add 0 = ad.add (k * 5) from rfl] at c0
      rw [show (ad.add (k * 5)).add 1 = { block := (ad.add (k * 5)).block, off := (ad.add (k * 5)).off + 1 } from rfl] at c1
      rw [show (ad.add (k * 5)).add 2 = { block := (ad.add (k * 5)).block, off := (ad.add (k * 5)).off + 2 } from rfl] at c2
      rw [show (ad.add (k * 5)).add 3 = { block := (ad.add (k * 5)).block, off := (ad.add (k * 5)).off + 3 } from rfl] at c3
      rw [show (ad.add (k * 5)).add 4 = { block := (ad.add (k * 5)).block, off := (ad.add (k * 5)).off + 4 } from rfl] at c4
      rw [had]
      have HX := Lib.hid hx
      have hle := Lib.hid (lp_le EB.out k)
      clear hc hx had hab
      go_wp2_with (first
        | (at_builtin; refine wpList_push elemInts rfl _ _ rfl (w.heap.size + 1) _ _ _ rfl (HT.out.alloc _).o #[.int .i64 x.entry] _ rfl (by simp) rfl (fun u hu => by rcases List.mem_singleton.1 hu with rfl; rfl) (by have := hle.out; omega) (by have := HT.out.x.z; simp; omega) ?_; intro v1 w1 ho1 hb1; have HE := Lib.hid ((HT.out.alloc _).push ho1 hb1 (lp_succ HX.out)); clear ho1 hb1))
      go_roundw
      case rel => exact ⟨k + 1, by omega, by go_num, HE.out⟩
      case measure => simp [intOf]; omega
    · have f2 := HT.out.x.c2
      have T0 := Lib.hid (HT.out.cast (lt_zero (c := c) (k := k) (by have := HC.out.np.1; omega)))
      clear HT
      go_wp2
      clear f2
      go_loopw [3, 31] (fun v i wr => ∃ k : Nat, k ≤ h.t.n ∧ i = .int .i64 k ∧ EInv w.heap.size h w wr v (lt c k)) (fun _ i _ => h.t.n - (intOf i).toNat)
      case atStart => exact ⟨0, by omega, rfl, T0.out⟩
      case round =>
        obtain ⟨k, hk, rfl, hT⟩ := hrel
        have HT := Lib.hid hT
        clear hT T0
        by_cases hlt : k < h.t.n
        · have hn : h.t.n ≤ 140737488351232 := HC.out.nt.2
          obtain ⟨ad, x, had, hx, hab, hc⟩ := Reads.elem (f := ThunkD.cells) (fun _ => rfl) (HC.out.t.below HT.out.x.b) HC.out.nt.1 hlt
          have c0 := hc 0 _ (by omega) rfl
          have c1 := hc 1 _ (by omega) rfl
          have c2 := hc 2 _ (by omega) rfl
          rw [show (ad.add (k * 3)).add 0 = ad.add (k * 3) from rfl] at c0
          rw [show (ad.add (k * 3)).add 1 = { block := (ad.add (k * 3)).block, off := (ad.add (k * 3)).off + 1 } from rfl] at c1
          rw [show (ad.add (k * 3)).add 2 = { block := (ad.add (k * 3)).block, off := (ad.add (k * 3)).off + 2 } from rfl] at c2
          rw [had]
          have HX := Lib.hid hx
          have hle := Lib.hid (lt_le EB.out k)
          clear hc hx had hab
          go_wp2
          clear c0 c1 c2
          have I0 := Lib.hid ((HT.out.alloc (.cells #[.int .i64 x.value, .int .i64 x.address, .int .i64 x.desig] 94)).cast (l' := lt c k ++ tl x 0) (by simp [tl]))
          clear HT
          go_loopw [3, 42] (fun v i wi => ∃ m : Nat, m ≤ 3 ∧ i = .int .i64 m ∧ EInv w.heap.size h w wi v (lt c k ++ tl x m)) (fun _ i _ => 3 - (intOf i).toNat)
          case atStart => exact ⟨0, by omega, rfl, I0.out⟩
          case round =>
            obtain ⟨m, hm, rfl, hI⟩ := hrel
            have HI := Lib.hid hI
            clear hI I0
            have ix0 := index3_0 x.value x.address x.desig
            have ix1 := index3_1 x.value x.address x.desig
            have ix2 := index3_2 x.value x.address x.desig
            match m, hm with
            | 0, _ =>
              have hle2 := tl_le x 0
              by_cases hv : 0 ≤ x.value
              · have HV := Lib.hid (tl_in (lt c k) x 0 x.value rfl hv)
                go_wp2_with (first
                  | (at_builtin; refine wpList_push elemInts rfl _ _ rfl (w.heap.size + 1) _ _ _ rfl HI.out.o #[.int .i64 x.value] _ rfl (by first | rfl | simp) rfl (fun u hu => by rcases List.mem_singleton.1 hu with rfl; rfl) (by have := hle.out; rw [List.length_append]; omega) HI.out.x.z ?_; intro v1 w1 ho1 hb1; have HE := Lib.hid (HI.out.push ho1 hb1 HV.out); clear ho1 hb1))
                go_roundw
                case rel => exact ⟨1, by omega, by go_num, HE.out⟩
                case measure => simp [intOf]
              · have HV := Lib.hid (tl_out (lt c k) x 0 _ rfl hv)
                go_wp2
                go_roundw
                case rel => exact ⟨1, by omega, by go_num, HI.out.cast HV.out⟩
                case measure => simp [intOf]
            | 1, _ =>
              have hle2 := tl_le x 1
              by_cases hv : 0 ≤ x.address
              · have HV := Lib.hid (tl_in (lt c k) x 1 x.address rfl hv)
                go_wp2_with (first
                  | (at_builtin; refine wpList_push elemInts rfl _ _ rfl (w.heap.size + 1) _ _ _ rfl HI.out.o #[.int .i64 x.address] _ rfl (by first | rfl | simp) rfl (fun u hu => by rcases List.mem_singleton.1 hu with rfl; rfl) (by have := hle.out; rw [List.length_append]; omega) HI.out.x.z ?_; intro v1 w1 ho1 hb1; have HE := Lib.hid (HI.out.push ho1 hb1 HV.out); clear ho1 hb1))
                go_roundw
                case rel => exact ⟨2, by omega, by go_num, HE.out⟩
                case measure => simp [intOf]
              · have HV := Lib.hid (tl_out (lt c k) x 1 _ rfl hv)
                go_wp2
                go_roundw
                case rel => exact ⟨2, by omega, by go_num, HI.out.cast HV.out⟩
                case measure => simp [intOf]
            | 2, _ =>
              have hle2 := tl_le x 2
              by_cases hv : 0 ≤ x.desig
              · have HV := Lib.hid (tl_in (lt c k) x 2 x.desig rfl hv)
                go_wp2_with (first
                  | (at_builtin; refine wpList_push elemInts rfl _ _ rfl (w.heap.size + 1) _ _ _ rfl HI.out.o #[.int .i64 x.desig] _ rfl (by first | rfl | simp) rfl (fun u hu => by rcases List.mem_singleton.1 hu with rfl; rfl) (by have := hle.out; rw [List.length_append]; omega) HI.out.x.z ?_; intro v1 w1 ho1 hb1; have HE := Lib.hid (HI.out.push ho1 hb1 HV.out); clear ho1 hb1))
                go_roundw
                case rel => exact ⟨3, by omega, by go_num, HE.out⟩
                case measure => simp [intOf]
              · have HV := Lib.hid (tl_out (lt c k) x 2 _ rfl hv)
                go_wp2
                go_roundw
                case rel => exact ⟨3, by omega, by go_num, HI.out.cast HV.out⟩
                case measure => simp [intOf]
            | 3, _ =>
              have HE := Lib.hid (HI.out.cast (l' := lt c (k + 1)) (lt_succ HX.out))
              go_wp2
              go_roundw
              case rel => exact ⟨k + 1, by omega, by go_num, HE.out⟩
              case measure => simp [intOf]; omega
        · have f3 := HT.out.x.c3
          have T0 := Lib.hid (HT.out.cast (ls_zero (c := c) (k := k) (by have := HC.out.nt.1; omega)))
          clear HT
          go_wp2
          clear f3
          go_loopw [3, 56] (fun v i wr => ∃ k : Nat, k ≤ h.s.n ∧ i = .int .i64 k ∧ EInv w.heap.size h w wr v (ls c k)) (fun _ i _ => h.s.n - (intOf i).toNat)
          case atStart => exact ⟨0, by omega, rfl, T0.out⟩
          case round =>
            obtain ⟨k, hk, rfl, hT⟩ := hrel
            have HT := Lib.hid hT
            clear hT T0
            by_cases hlt : k < h.s.n
            · have hn : h.s.n ≤ 140737488351232 := HC.out.ns.2
              obtain ⟨hs, hsr, hsl, hsx⟩ := (HC.out.below HT.out.x.b).s
              obtain ⟨ad, sx, had, hsk, hab, c0⟩ := Reads.elem1 (f := SH.v) hsr (by rw [hsl]; exact HC.out.ns.1) hlt
              rw [show SH.v sx = .slice sx.a sx.n sx.c from rfl] at c0
              obtain ⟨x, hx⟩ : ∃ x, c.switches[k]? = some x := ⟨_, List.getElem?_eq_getElem (by have := HC.out.ns.1; omega)⟩
              obtain ⟨hr, hsm⟩ := hsx k sx x hsk hx
              unfold Small at hsm
              have hxl : sx.n = x.length := by have := hr.1; simp [intCells] at this; omega
              have hxp : 0 < sx.n := by
                rcases Nat.eq_zero_or_pos sx.n with h0 | h0
                · exact absurd (List.length_eq_zero_iff.1 (hxl.symm.trans h0)) (EB.out.ne x (List.mem_of_getElem? hx))
                · exact h0
              obtain ⟨ad2, had2, hab2, hc2⟩ := hr.2 hxp
              rw [had]
              rw [had2] at c0
              have HX := Lib.hid hx
              have HXL := Lib.hid hxl
              have HX2 := Lib.hid hc2
              have HL2 := Lib.hid hr.1
              have hle := Lib.hid (ls_le EB.out k)
              have hle2 := Lib.hid (ls_le EB.out (k + 1))
              clear hsr hsl hsx hsk had had2 hab hab2 hx hxl hr hc2
              go_wp2_with (first
                | (at_builtin; refine wpList_run elemInts rfl _ _ rfl (w.heap.size + 1) _ _ _ rfl HT.out.o ad2 sx.n sx.c (intCells x) rfl HL2.out HX2.out (fun u hu => by obtain ⟨y, _, rfl⟩ := List.mem_map.1 hu; rfl) (by have h1 := hle2.out; rw [ls_succ HX.out, List.length_append, ← HXL.out] at h1; omega) HT.out.x.z ?_; intro v1 w1 ho1 hb1; have HE := Lib.hid (HT.out.run HXL.out ho1 hb1 (ls_succ HX.out)); clear ho1 hb1))
              go_roundw
              case rel => exact ⟨k + 1, by omega, by go_num, HE.out⟩
              case measure => simp [intOf]; omega
            · have f0 := HT.out.x.c0
              have T0 := Lib.hid (HT.out.cast (li_zero (c := c) (k := k) (by have := HC.out.ns.1; omega)))
              clear HT
              go_wp2
              clear f0
              go_loopw [3, 67] (fun v i wr => ∃ k : Nat, k ≤ h.i.n ∧ i = .int .i64 k ∧ EInv w.heap.size h w wr v (li c k)) (fun _ i _ => h.i.n - (intOf i).toNat)
              case atStart => exact ⟨0, by omega, rfl, T0.out⟩
              case round =>
                obtain ⟨k, hk, rfl, hT⟩ := hrel
                have HT := Lib.hid hT
                clear hT T0
                by_cases hlt : k < h.i.n
                · have hn : h.i.n ≤ 140737488351232 := HC.out.ni.2
                  obtain ⟨ad, x, had, hx, hab, hc⟩ := Reads.elem (f := InstrD.cells) (fun _ => rfl) (HC.out.i.below HT.out.x.b) HC.out.ni.1 hlt
                  have c0 := hc 0 _ (by omega) rfl
                  have c1 := hc 1 _ (by omega) rfl
                  have c2 := hc 2 _ (by omega) rfl
                  have c3 := hc 3 _ (by omega) rfl
                  rw [show (ad.add (k * 4)).add 0 = ad.add (k * 4) from rfl] at c0
                  rw [show (ad.add (k * 4)).add 1 = { block := (ad.add (k * 4)).block, off := (ad.add (k * 4)).off + 1 } from rfl] at c1
                  rw [show (ad.add (k * 4)).add 2 = { block := (ad.add (k * 4)).block, off := (ad.add (k * 4)).off + 2 } from rfl] at c2
                  rw [show (ad.add (k * 4)).add 3 = { block := (ad.add (k * 4)).block, off := (ad.add (k * 4)).off + 3 } from rfl] at c3
                  rw [had]
                  have HX := Lib.hid hx
                  have hle := Lib.hid (li_le EB.out k)
                  clear hc hx had hab
                  cases hop : (x.op == 20) with
                  | true =>
                    have HOP := Lib.hid (li_lab HX.out hop)
                    go_wp2_with (first
                      | (at_builtin; refine wpList_push elemInts rfl _ _ rfl (w.heap.size + 1) _ _ _ rfl (HT.out.alloc _).o #[.int .i64 x.a] _ rfl (by simp) rfl (fun u hu => by rcases List.mem_singleton.1 hu with rfl; rfl) (by have := hle.out; omega) (by have := HT.out.x.z; simp; omega) ?_; intro v1 w1 ho1 hb1; have HE := Lib.hid ((HT.out.alloc _).push ho1 hb1 HOP.out); clear ho1 hb1))
                    go_roundw
                    case rel => exact ⟨k + 1, by omega, by go_num, HE.out⟩
                    case measure => simp [intOf]; omega
                  | false =>
                    have HOP := Lib.hid (li_non HX.out hop)
                    go_wp2
                    go_roundw
                    case rel => exact ⟨k + 1, by omega, by go_num, (HT.out.alloc _).cast HOP.out⟩
                    case measure => simp [intOf]; omega
                · have T0 := Lib.hid (HT.out.cast (li_all (c := c) (k := k) (by have := HC.out.ni.1; omega)).symm)
                  have hle := li_le EB.out k
                  rw [li_all (by have := HC.out.ni.1; omega)] at hle
                  clear HT
                  go_wp2_with (first
                    | (go_at_call 136; refine (sort_own (w.heap.size + 1) _ (entRaw c) _ T0.out.o (by omega)).mono ?_; rintro e w3 ⟨rfl, ho3, hb3⟩; have O3 := Lib.hid ho3; have BB3 := Lib.hid (T0.out.x.b.trans (hb3.mono (by omega))); clear ho3 hb3)
                    | (go_at_call 137; refine (compact_own (w.heap.size + 1) _ (sortL (entRaw c)) _ O3.out (by rw [sortL_length]; omega)).mono ?_; rintro e w4 ⟨rfl, ho4, hb4⟩; have O4 := Lib.hid ho4; have BB4 := Lib.hid (BB3.out.trans (hb4.mono (by omega))); clear ho4 hb4))
                  go_ret
                  exact ⟨_, rfl, own_mono O4.out (by omega), BB4.out⟩
end Go.Proofs.YtmfnholhhakgaaaGreatDoor
end
section
namespace Go.Proofs.YtmfnholhhakgaaaGreatDoor
open Go Go.Proofs Go.RowKit Go.Sort

/-- A code that Check takes. -/
structure Well (c : CodeD) : Prop where
  p : ∀ x ∈ c.procs, procOk c.instrs.length x = true
  t : ∀ x ∈ c.thunks, thunkOk c.instrs.length x = true
  s : ∀ x ∈ c.switches, switchOk c.instrs.length x = true
  g : ∀ x ∈ c.strings, strOk x = true
  r : ∀ x ∈ c.reals, realOk x = true
  o : ∀ x ∈ c.owns, ownOk x = true
  i : ∀ x ∈ c.instrs, insErr c x = 0

theorem fb_all {α : Type} {p : α → Bool} {l : List α} (h : fb p l = -1) : ∀ x ∈ l, p x = true := by
  intro x hx
  unfold fb idxOf at h
  cases hf : l.findIdx? (fun x => !p x) with
  | none =>
    have := List.findIdx?_eq_none_iff.1 hf x hx
    simpa using this
  | some i =>
    rw [hf] at h
    simp at h

theorem tabErr_zero {c : CodeD} (h : tabErr c = 0) : ∀ n ∈ tabFb c, n = -1 := by
  have hat : tabAt c = -1 := by
    unfold tabErr at h
    split at h
    · assumption
    · cases h
  intro n hn
  have hcase : ∀ m ∈ tabFb c, m = -1 ∨ 0 ≤ m := by
    intro m hm
    unfold tabFb at hm
    simp only [List.mem_cons, List.not_mem_nil, or_false] at hm
    rcases hm with rfl | rfl | rfl | rfl | rfl | rfl <;> exact fb_cases _ _
  rcases hcase n hn with h1 | h1
  · exact h1
  · unfold tabAt at hat
    cases hf : (tabFb c).find? (fun n => decide (0 ≤ n)) with
    | none => exact absurd (List.find?_eq_none.1 hf n hn) (by simp [h1])
    | some m =>
      rw [hf] at hat
      have h2 := List.find?_some hf
      simp at hat h2
      omega

theorem fine_well {c : CodeD} {l : Bool} (h : fineB c l = true) : l = false ∧ Well c := by
  unfold fineB chkErr at h
  cases l with
  | true => simp at h
  | false =>
    refine ⟨rfl, ?_⟩
    simp only [Bool.false_eq_true, if_false] at h
    by_cases ht : tabErr c ≠ 0
    · rw [if_pos ht] at h
      exact absurd (by simpa using h) ht
    · rw [if_neg ht] at h
      have ht' := tabErr_zero (Decidable.not_not.1 ht)
      refine { p := ?_, t := ?_, s := ?_, g := ?_, r := ?_, o := ?_, i := ?_ }
      · exact fb_all (ht' _ (by simp [tabFb]))
      · exact fb_all (ht' _ (by simp [tabFb]))
      · exact fb_all (ht' _ (by simp [tabFb]))
      · exact fb_all (ht' _ (by simp [tabFb]))
      · exact fb_all (ht' _ (by simp [tabFb]))
      · exact fb_all (ht' _ (by simp [tabFb]))
      · intro x hx
        cases hf : c.instrs.find? (fun x => insErr c x != 0) with
        | none => simpa using List.find?_eq_none.1 hf x hx
        | some y =>
          rw [hf] at h
          have h2 := List.find?_some hf
          simp at h h2
          exact absurd h h2

theorem well_fine {c : CodeD} (H : Well c) : fineB c false = true := by
  have hi : ∀ {α : Type} {p : α → Bool} {l : List α}, (∀ x ∈ l, p x = true) → fb p l = -1 := fun h => fb_miss fun j y hy => h y (List.mem_of_getElem? hy)
  have ht : tabErr c = 0 := by
    unfold tabErr tabAt tabFb
    rw [hi H.p, hi H.t, hi H.s, hi H.g, hi H.r, hi H.o]
    rfl
  have hf : c.instrs.find? (fun x => insErr c x != 0) = none := List.find?_eq_none.2 fun x hx => by simp [H.i x hx]
  unfold fineB chkErr
  rw [hf, ht]
  rfl

theorem large_sizes {h : CodeH} (H : largeB h = false) : 0 < h.i.n ∧ h.i.n ≤ 20000 ∧ h.p.n ≤ 2000 ∧ h.t.n ≤ 2000 ∧ h.s.n ≤ 2000 ∧ h.g.n ≤ 2000 ∧ h.r.n ≤ 2000 ∧ h.o.n ≤ 2000 := by
  unfold largeB at H
  simp at H
  omega

theorem flatId_le (b : Nat) : ∀ l : List (List Int), (∀ x ∈ l, x.length ≤ b) → (l.flatMap id).length ≤ l.length * b
  | [], _ => by simp
  | x :: l, h => by
    have h1 := h x (by simp)
    have h2 := flatId_le b l fun y hy => h y (by simp [hy])
    rw [List.flatMap_cons, List.length_append, List.length_cons, Nat.succ_mul]
    simp only [id]
    omega

theorem fine_ent {w : World} {B : Nat} {h : CodeH} {c : CodeD} (H : CodeAt w B h c) (hf : fineB c (largeB h) = true) : EntB c := by
  obtain ⟨hl, W⟩ := fine_well hf
  obtain ⟨_, hi, hp, ht, hs, hg, hr, ho⟩ := large_sizes hl
  have e1 := H.ni.1
  have e2 := H.np.1
  have e3 := H.nt.1
  have e4 := H.ns.1
  have hw : ∀ x ∈ c.switches, 1 ≤ x.length ∧ x.length ≤ 2000 := by
    intro x hx
    have := W.s x hx
    unfold switchOk wiB at this
    simp at this
    omega
  refine { p := by omega, t := by omega, i := by omega, s := ?_, ne := ?_ }
  · have h1 := flatId_le 2000 c.switches fun x hx => (hw x hx).2
    have h2 : c.switches.length * 2000 ≤ 2000 * 2000 := Nat.mul_le_mul_right _ (by omega)
    omega
  · rintro x hx rfl
    have := (hw _ hx).1
    simp at this

theorem Entries_bad (h : CodeH) (c : CodeD) (w : World) (H : CodeAt w w.heap.size h c) (hf : fineB c (largeB h) = false) :
    Calls Tryz.prog 32 #[.agg #[.slice h.i.a h.i.n h.i.c, .slice h.p.a h.p.n h.p.c, .slice h.t.a h.t.n h.t.c, .slice h.s.a h.s.n h.s.c, .slice h.g.a h.g.n h.g.c, .slice h.r.a h.r.n h.r.c, .slice h.o.a h.o.n h.o.c]] w
      (RetIntsE w [] 1) := by
  have HC := Lib.hid H
  clear H
  have B0 := Lib.hid (BInv.start h w 30)
  go_enter Tryz.func32, Tryz.ntmps32
  go_wp2_with (first
    | (go_at_call 56; refine (fine_any h c _ (HC.out.at B0.out.b)).mono ?_; rintro e w1 ⟨rfl, hb1⟩; have B1 := Lib.hid (B0.out.below hb1); clear hb1))
  go_ret2
  exact ⟨_, rfl, World.ownsRow_nil _ _ _ _, B1.out.b⟩

theorem Entries_ok (h : CodeH) (c : CodeD) (w : World) (H : CodeAt w w.heap.size h c) (hf : fineB c (largeB h) = true) :
    Calls Tryz.prog 32 #[.agg #[.slice h.i.a h.i.n h.i.c, .slice h.p.a h.p.n h.p.c, .slice h.t.a h.t.n h.t.c, .slice h.s.a h.s.n h.s.c, .slice h.g.a h.g.n h.g.c, .slice h.r.a h.r.n h.r.c, .slice h.o.a h.o.n h.o.c]] w
      (RetIntsE w (entL c) 0) := by
  have EB := Lib.hid (fine_ent H hf)
  have HC := Lib.hid H
  clear H
  have B0 := Lib.hid (BInv.start h w 30)
  go_enter Tryz.func32, Tryz.ntmps32
  go_wp2_with (first
    | (go_at_call 56; refine (fine_any h c _ (HC.out.at B0.out.b)).mono ?_; rintro e w1 ⟨rfl, hb1⟩; have B1 := Lib.hid (B0.out.below hb1); have x0 := B1.out.c0; have x1 := B1.out.c1; have x2 := B1.out.c2; have x3 := B1.out.c3; have x4 := B1.out.c4; have x5 := B1.out.c5; have x6 := B1.out.c6; clear hb1)
    | (go_at_call 78; refine (entries_any h c _ (HC.out.at B1.out.b) EB.out).mono ?_; rintro e w3 ⟨v, rfl, ho3, hb3⟩; have O3 := Lib.hid ho3; have BB3 := Lib.hid hb3; clear ho3 hb3 x0 x1 x2 x3 x4 x5 x6))
  go_ret2
  exact ⟨_, rfl, own_mono O3.out B1.out.b.size, B1.out.b.trans (BB3.out.mono B1.out.b.size)⟩
end Go.Proofs.YtmfnholhhakgaaaGreatDoor
end
