/- The reference of chapter 14: its small functions, the kinds of operands. -/
import Derived.Test.YtmfnholhhakgaaaGreatDoorMhh
import Derived.Deep.RegionHeld3
namespace Go.Proofs.YtmfnholhhakgaaaGreatDoor
open Go Go.Proofs Go.RowKit Go.Sort
set_option maxRecDepth 100000
set_option maxHeartbeats 1000000

theorem in_any (n lo hi : Int) (w : World) : Calls Tryz.prog 107 #[.int .i64 n, .int .i64 lo, .int .i64 hi] w fun e w' => e = .returned (.bool (wiB n lo hi)) ∧ w = w' := by
  go_enter Tryz.func107, Tryz.ntmps107
  go_wp2
  all_goals go_ret
  all_goals exact ⟨ret_bool (by unfold wiB; simp; omega), rfl⟩
theorem place_eq (I : Nat) (n : Int) : wiB n (-1) ((I : Int) - 1) = placeOk I n := by
  unfold placeOk wiB
  rw [Bool.eq_iff_iff]
  simp
  omega
theorem rplace_any (h : CodeH) (n : Int) (w : World) (hI : h.i.n ≤ 140737488351232) : Calls Tryz.prog 103 #[.agg #[.slice h.i.a h.i.n h.i.c, .slice h.p.a h.p.n h.p.c, .slice h.t.a h.t.n h.t.c, .slice h.s.a h.s.n h.s.c, .slice h.g.a h.g.n h.g.c, .slice h.r.a h.r.n h.r.c, .slice h.o.a h.o.n h.o.c], .int .i64 n] w fun e w' => e = .returned (.bool (placeOk h.i.n n)) ∧ Below w.heap.size w w' := by
  have hb : ∀ o, Below w.heap.size w (w.alloc o) := fun o => (Below.refl w.heap.size w).alloc (Nat.le_refl _) o
  go_enter Tryz.func103, Tryz.ntmps103
  go_wp2_with (go_at_call 107; refine (in_any _ _ _ _).mono ?_; rintro e w' ⟨rfl, rfl⟩)
  go_ret
  exact ⟨ret_bool (place_eq _ _), hb _⟩
def operandOf (x : InstrD) (k : Nat) : Int := match k with | 0 => x.a | 1 => x.b | _ => x.c
theorem Operand_any (x : InstrD) (k : Nat) (hk : k < 3) (w : World) : Calls Tryz.prog 108 #[.agg #[.int .i64 x.op, .int .i64 x.a, .int .i64 x.b, .int .i64 x.c], .int .i64 k] w fun e w' => e = .returned (.int .i64 (operandOf x k)) ∧ Below w.heap.size w w' := by
  have hb : ∀ o1 o2, Below w.heap.size w ((w.alloc o1).alloc o2) := fun o1 o2 => ((Below.refl w.heap.size w).alloc (Nat.le_refl _) o1).alloc (by simp) o2
  match k, hk with
  | 0, _ =>
    go_enter Tryz.func108, Tryz.ntmps108
    go_wp2
    go_ret
    exact ⟨rfl, hb _ _⟩
  | 1, _ =>
    go_enter Tryz.func108, Tryz.ntmps108
    go_wp2
    go_ret
    exact ⟨rfl, hb _ _⟩
  | 2, _ =>
    go_enter Tryz.func108, Tryz.ntmps108
    go_wp2
    go_ret
    exact ⟨rfl, hb _ _⟩
theorem ret_beq {a b : Bool} : (a == b) = true ↔ a = b := by cases a <;> cases b <;> simp
theorem own_false (h : CodeH) (c : CodeD) (n : Int) (w : World) (H : CodeAt w w.heap.size h c) : Calls Tryz.prog 141 #[.agg #[.slice h.i.a h.i.n h.i.c, .slice h.p.a h.p.n h.p.c, .slice h.t.a h.t.n h.t.c, .slice h.s.a h.s.n h.s.c, .slice h.g.a h.g.n h.g.c, .slice h.r.a h.r.n h.r.c, .slice h.o.a h.o.n h.o.c], .int .i64 n, .bool false] w fun e w' => e = .returned (.bool (opnd c 11 n)) ∧ Below w.heap.size w w' := by
  have hb : ∀ o, Below w.heap.size w (w.alloc o) := fun o => (Below.refl w.heap.size w).alloc (Nat.le_refl _) o
  have hs : h.o.n ≤ 140737488351232 := H.no.2
  have HL := Lib.hid H.no.1
  cases hw : wiB n 0 ((h.o.n : Int) - 1) with
  | true =>
    have hbd := wi_bounds hw
    obtain ⟨k, rfl⟩ : ∃ k : Nat, n = k := ⟨n.toNat, by omega⟩
    have hk : k < h.o.n := by omega
    obtain ⟨ad, x, had, hx, hab, c0⟩ := Reads.elem1 (f := Value.int .i64) H.o H.no.1 hk
    have c1 : ∀ o, (w.alloc o).cell? (ad.add k) = some (.int .i64 x) := fun o => (World.cell?_alloc_lt _ _ _ (by rw [block_of_add]; exact hab)).trans c0
    have HX := Lib.hid hx
    rw [had]
    clear hx had hab c0 hbd H
    have HW := Lib.hid hw
    go_enter Tryz.func141, Tryz.ntmps141
    go_wp2_with (go_at_call 107; refine (in_any _ _ _ _).mono ?_; rintro e w' ⟨rfl, rfl⟩)
    go_ret
    exact ⟨ret_bool (by unfold opnd ownAt; rw [Bool.eq_iff_iff]; simp [← HL.out, HW.out, HX.out]), hb _⟩
  | false =>
    have HW := Lib.hid hw
    clear H
    go_enter Tryz.func141, Tryz.ntmps141
    go_wp2_with (go_at_call 107; refine (in_any _ _ _ _).mono ?_; rintro e w' ⟨rfl, rfl⟩)
    go_ret
    exact ⟨ret_bool (by unfold opnd; rw [← HL.out, HW.out]; rfl), hb _⟩
theorem own_true (h : CodeH) (c : CodeD) (n : Int) (w : World) (H : CodeAt w w.heap.size h c) : Calls Tryz.prog 141 #[.agg #[.slice h.i.a h.i.n h.i.c, .slice h.p.a h.p.n h.p.c, .slice h.t.a h.t.n h.t.c, .slice h.s.a h.s.n h.s.c, .slice h.g.a h.g.n h.g.c, .slice h.r.a h.r.n h.r.c, .slice h.o.a h.o.n h.o.c], .int .i64 n, .bool true] w fun e w' => e = .returned (.bool (opnd c 12 n)) ∧ Below w.heap.size w w' := by
  have hb : ∀ o, Below w.heap.size w (w.alloc o) := fun o => (Below.refl w.heap.size w).alloc (Nat.le_refl _) o
  have hs : h.o.n ≤ 140737488351232 := H.no.2
  have HL := Lib.hid H.no.1
  cases hw : wiB n 0 ((h.o.n : Int) - 1) with
  | true =>
    have hbd := wi_bounds hw
    obtain ⟨k, rfl⟩ : ∃ k : Nat, n = k := ⟨n.toNat, by omega⟩
    have hk : k < h.o.n := by omega
    obtain ⟨ad, x, had, hx, hab, c0⟩ := Reads.elem1 (f := Value.int .i64) H.o H.no.1 hk
    have c1 : ∀ o, (w.alloc o).cell? (ad.add k) = some (.int .i64 x) := fun o => (World.cell?_alloc_lt _ _ _ (by rw [block_of_add]; exact hab)).trans c0
    have HX := Lib.hid hx
    rw [had]
    clear hx had hab c0 hbd H
    have HW := Lib.hid hw
    go_enter Tryz.func141, Tryz.ntmps141
    go_wp2_with (go_at_call 107; refine (in_any _ _ _ _).mono ?_; rintro e w' ⟨rfl, rfl⟩)
    go_ret
    exact ⟨ret_bool (by unfold opnd ownAt; rw [Bool.eq_iff_iff]; simp [← HL.out, HW.out, HX.out]), hb _⟩
  | false =>
    have HW := Lib.hid hw
    clear H
    go_enter Tryz.func141, Tryz.ntmps141
    go_wp2_with (go_at_call 107; refine (in_any _ _ _ _).mono ?_; rintro e w' ⟨rfl, rfl⟩)
    go_ret
    exact ⟨ret_bool (by unfold opnd; rw [← HL.out, HW.out]; rfl), hb _⟩
set_option maxHeartbeats 2000000 in
theorem rvalid_any (man ex : Int) (hm : I64 man) (w : World) : Calls Tryz.prog 106 #[.agg #[.int .i64 man, .int .i64 ex]] w fun e w' => e = .returned (.bool (realB man ex)) ∧ Below w.heap.size w w' := by
  have hb : ∀ o, Below w.heap.size w (w.alloc o) := fun o => (Below.refl w.heap.size w).alloc (Nat.le_refl _) o
  go_enter Tryz.func106, Tryz.ntmps106
  go_wp2
  all_goals go_ret
  all_goals refine ⟨ret_bool ?_, hb _⟩
  all_goals (clear hb; unfold realB; unfold I64 at hm; rw [Bool.eq_iff_iff]; (try simp only [decide_eq_true_eq, Bool.or_eq_true, beq_iff_eq, Bool.false_eq_true, true_iff, false_iff] at *); (try unfold wrap64 at *); first | omega | (simp only [beq_eq_false_iff_ne, ne_eq] at *; omega) | (simp only [true_or, and_true]; omega))
theorem operand110 (h : CodeH) (c : CodeD) (n : Int) (w : World) (_H : CodeAt w w.heap.size h c) : Calls Tryz.prog 109 #[.agg #[.slice h.i.a h.i.n h.i.c, .slice h.p.a h.p.n h.p.c, .slice h.t.a h.t.n h.t.c, .slice h.s.a h.s.n h.s.c, .slice h.g.a h.g.n h.g.c, .slice h.r.a h.r.n h.r.c, .slice h.o.a h.o.n h.o.c], .int .u8 110, .int .i64 n] w fun e w' => e = .returned (.bool (opnd c 1 n)) ∧ Below w.heap.size w w' := by
  have hb : ∀ o, Below w.heap.size w (w.alloc o) := fun o => (Below.refl w.heap.size w).alloc (Nat.le_refl _) o
  go_enter Tryz.func109, Tryz.ntmps109
  go_wp2_with (go_at_call 107; refine (in_any _ _ _ _).mono ?_; rintro e w' ⟨rfl, rfl⟩)
  go_ret
  exact ⟨rfl, hb _⟩
theorem operand114 (h : CodeH) (c : CodeD) (n : Int) (w : World) (H : CodeAt w w.heap.size h c) : Calls Tryz.prog 109 #[.agg #[.slice h.i.a h.i.n h.i.c, .slice h.p.a h.p.n h.p.c, .slice h.t.a h.t.n h.t.c, .slice h.s.a h.s.n h.s.c, .slice h.g.a h.g.n h.g.c, .slice h.r.a h.r.n h.r.c, .slice h.o.a h.o.n h.o.c], .int .u8 114, .int .i64 n] w fun e w' => e = .returned (.bool (opnd c 2 n)) ∧ Below w.heap.size w w' := by
  have hb : ∀ o, Below w.heap.size w (w.alloc o) := fun o => (Below.refl w.heap.size w).alloc (Nat.le_refl _) o
  have hs : h.r.n ≤ 140737488351232 := H.nr.2
  have HL := Lib.hid H.nr.1
  clear H
  go_enter Tryz.func109, Tryz.ntmps109
  go_wp2_with (go_at_call 107; refine (in_any _ _ _ _).mono ?_; rintro e w' ⟨rfl, rfl⟩)
  go_ret
  exact ⟨ret_bool (by rw [HL.out]; rfl), hb _⟩
theorem operand98 (h : CodeH) (c : CodeD) (n : Int) (w : World) (_H : CodeAt w w.heap.size h c) : Calls Tryz.prog 109 #[.agg #[.slice h.i.a h.i.n h.i.c, .slice h.p.a h.p.n h.p.c, .slice h.t.a h.t.n h.t.c, .slice h.s.a h.s.n h.s.c, .slice h.g.a h.g.n h.g.c, .slice h.r.a h.r.n h.r.c, .slice h.o.a h.o.n h.o.c], .int .u8 98, .int .i64 n] w fun e w' => e = .returned (.bool (opnd c 3 n)) ∧ Below w.heap.size w w' := by
  have hb : ∀ o, Below w.heap.size w (w.alloc o) := fun o => (Below.refl w.heap.size w).alloc (Nat.le_refl _) o
  go_enter Tryz.func109, Tryz.ntmps109
  go_wp2_with (go_at_call 107; refine (in_any _ _ _ _).mono ?_; rintro e w' ⟨rfl, rfl⟩)
  go_ret
  exact ⟨rfl, hb _⟩
theorem operand115 (h : CodeH) (c : CodeD) (n : Int) (w : World) (H : CodeAt w w.heap.size h c) : Calls Tryz.prog 109 #[.agg #[.slice h.i.a h.i.n h.i.c, .slice h.p.a h.p.n h.p.c, .slice h.t.a h.t.n h.t.c, .slice h.s.a h.s.n h.s.c, .slice h.g.a h.g.n h.g.c, .slice h.r.a h.r.n h.r.c, .slice h.o.a h.o.n h.o.c], .int .u8 115, .int .i64 n] w fun e w' => e = .returned (.bool (opnd c 4 n)) ∧ Below w.heap.size w w' := by
  have hb : ∀ o, Below w.heap.size w (w.alloc o) := fun o => (Below.refl w.heap.size w).alloc (Nat.le_refl _) o
  have hs : h.g.n ≤ 140737488351232 := H.ng.2
  have HL := Lib.hid H.ng.1
  clear H
  go_enter Tryz.func109, Tryz.ntmps109
  go_wp2_with (go_at_call 107; refine (in_any _ _ _ _).mono ?_; rintro e w' ⟨rfl, rfl⟩)
  go_ret
  exact ⟨ret_bool (by rw [HL.out]; rfl), hb _⟩
theorem operand116 (h : CodeH) (c : CodeD) (n : Int) (w : World) (H : CodeAt w w.heap.size h c) : Calls Tryz.prog 109 #[.agg #[.slice h.i.a h.i.n h.i.c, .slice h.p.a h.p.n h.p.c, .slice h.t.a h.t.n h.t.c, .slice h.s.a h.s.n h.s.c, .slice h.g.a h.g.n h.g.c, .slice h.r.a h.r.n h.r.c, .slice h.o.a h.o.n h.o.c], .int .u8 116, .int .i64 n] w fun e w' => e = .returned (.bool (opnd c 13 n)) ∧ Below w.heap.size w w' := by
  have hb : ∀ o, Below w.heap.size w (w.alloc o) := fun o => (Below.refl w.heap.size w).alloc (Nat.le_refl _) o
  have hs : h.t.n ≤ 140737488351232 := H.nt.2
  have HL := Lib.hid H.nt.1
  clear H
  go_enter Tryz.func109, Tryz.ntmps109
  go_wp2_with (go_at_call 107; refine (in_any _ _ _ _).mono ?_; rintro e w' ⟨rfl, rfl⟩)
  go_ret
  exact ⟨ret_bool (by rw [HL.out]; rfl), hb _⟩
theorem operand112 (h : CodeH) (c : CodeD) (n : Int) (w : World) (H : CodeAt w w.heap.size h c) : Calls Tryz.prog 109 #[.agg #[.slice h.i.a h.i.n h.i.c, .slice h.p.a h.p.n h.p.c, .slice h.t.a h.t.n h.t.c, .slice h.s.a h.s.n h.s.c, .slice h.g.a h.g.n h.g.c, .slice h.r.a h.r.n h.r.c, .slice h.o.a h.o.n h.o.c], .int .u8 112, .int .i64 n] w fun e w' => e = .returned (.bool (opnd c 14 n)) ∧ Below w.heap.size w w' := by
  have hb : ∀ o, Below w.heap.size w (w.alloc o) := fun o => (Below.refl w.heap.size w).alloc (Nat.le_refl _) o
  have hs : h.p.n ≤ 140737488351232 := H.np.2
  have HL := Lib.hid H.np.1
  clear H
  go_enter Tryz.func109, Tryz.ntmps109
  go_wp2_with (go_at_call 107; refine (in_any _ _ _ _).mono ?_; rintro e w' ⟨rfl, rfl⟩)
  go_ret
  exact ⟨ret_bool (by rw [HL.out]; rfl), hb _⟩
theorem operand102 (h : CodeH) (c : CodeD) (n : Int) (w : World) (H : CodeAt w w.heap.size h c) : Calls Tryz.prog 109 #[.agg #[.slice h.i.a h.i.n h.i.c, .slice h.p.a h.p.n h.p.c, .slice h.t.a h.t.n h.t.c, .slice h.s.a h.s.n h.s.c, .slice h.g.a h.g.n h.g.c, .slice h.r.a h.r.n h.r.c, .slice h.o.a h.o.n h.o.c], .int .u8 102, .int .i64 n] w fun e w' => e = .returned (.bool (opnd c 15 n)) ∧ Below w.heap.size w w' := by
  have hb : ∀ o, Below w.heap.size w (w.alloc o) := fun o => (Below.refl w.heap.size w).alloc (Nat.le_refl _) o
  have hs : h.p.n ≤ 140737488351232 := H.np.2
  have HL := Lib.hid H.np.1
  cases hw : wiB n 0 ((h.p.n : Int) - 1) with
  | true =>
    have hbd := wi_bounds hw
    obtain ⟨k, rfl⟩ : ∃ k : Nat, n = k := ⟨n.toNat, by omega⟩
    have hk : k < h.p.n := by omega
    obtain ⟨ad, x, had, hx, hab, hc⟩ := Reads.elem (f := ProcD.cells) (fun _ => rfl) H.p H.np.1 hk
    have c0 := hc 2 _ (by omega) rfl
    rw [show (ad.add (k * 5)).add 2 = { block := (ad.add (k * 5)).block, off := (ad.add (k * 5)).off + 2 } from rfl] at c0
    have c1 : ∀ o, (w.alloc o).cell? { block := (ad.add (k * 5)).block, off := (ad.add (k * 5)).off + 2 } = some (.int .i64 x.type) := fun o => (World.cell?_alloc_lt _ _ _ (by show (ad.add (k * 5)).block < _; rw [block_of_add]; exact hab)).trans c0
    have HX := Lib.hid hx
    rw [had]
    clear hx had hab c0 hbd H hc
    have HW := Lib.hid hw
    go_enter Tryz.func109, Tryz.ntmps109
    go_wp2_with (go_at_call 107; refine (in_any _ _ _ _).mono ?_; rintro e w' ⟨rfl, rfl⟩)
    go_ret
    exact ⟨ret_bool (by unfold opnd procTypeAt; rw [Bool.eq_iff_iff]; simp [← HL.out, HW.out, HX.out]), hb _⟩
  | false =>
    have HW := Lib.hid hw
    clear H
    go_enter Tryz.func109, Tryz.ntmps109
    go_wp2_with (go_at_call 107; refine (in_any _ _ _ _).mono ?_; rintro e w' ⟨rfl, rfl⟩)
    go_ret
    exact ⟨ret_bool (by unfold opnd; rw [← HL.out, HW.out]; rfl), hb _⟩
theorem operand119 (h : CodeH) (c : CodeD) (n : Int) (w : World) (H : CodeAt w w.heap.size h c) : Calls Tryz.prog 109 #[.agg #[.slice h.i.a h.i.n h.i.c, .slice h.p.a h.p.n h.p.c, .slice h.t.a h.t.n h.t.c, .slice h.s.a h.s.n h.s.c, .slice h.g.a h.g.n h.g.c, .slice h.r.a h.r.n h.r.c, .slice h.o.a h.o.n h.o.c], .int .u8 119, .int .i64 n] w fun e w' => e = .returned (.bool (opnd c 17 n)) ∧ Below w.heap.size w w' := by
  have hb : ∀ o, Below w.heap.size w (w.alloc o) := fun o => (Below.refl w.heap.size w).alloc (Nat.le_refl _) o
  have hs : h.s.n ≤ 140737488351232 := H.ns.2
  have HL := Lib.hid H.ns.1
  clear H
  go_enter Tryz.func109, Tryz.ntmps109
  go_wp2_with (go_at_call 107; refine (in_any _ _ _ _).mono ?_; rintro e w' ⟨rfl, rfl⟩)
  go_ret
  exact ⟨ret_bool (by rw [HL.out]; rfl), hb _⟩
theorem operand104 (h : CodeH) (c : CodeD) (n : Int) (w : World) (_H : CodeAt w w.heap.size h c) : Calls Tryz.prog 109 #[.agg #[.slice h.i.a h.i.n h.i.c, .slice h.p.a h.p.n h.p.c, .slice h.t.a h.t.n h.t.c, .slice h.s.a h.s.n h.s.c, .slice h.g.a h.g.n h.g.c, .slice h.r.a h.r.n h.r.c, .slice h.o.a h.o.n h.o.c], .int .u8 104, .int .i64 n] w fun e w' => e = .returned (.bool (opnd c 5 n)) ∧ Below w.heap.size w w' := by
  have hb : ∀ o, Below w.heap.size w (w.alloc o) := fun o => (Below.refl w.heap.size w).alloc (Nat.le_refl _) o
  go_enter Tryz.func109, Tryz.ntmps109
  go_wp2_with (go_at_call 107; refine (in_any _ _ _ _).mono ?_; rintro e w' ⟨rfl, rfl⟩)
  go_ret
  exact ⟨rfl, hb _⟩
theorem operand107 (h : CodeH) (c : CodeD) (n : Int) (w : World) (_H : CodeAt w w.heap.size h c) : Calls Tryz.prog 109 #[.agg #[.slice h.i.a h.i.n h.i.c, .slice h.p.a h.p.n h.p.c, .slice h.t.a h.t.n h.t.c, .slice h.s.a h.s.n h.s.c, .slice h.g.a h.g.n h.g.c, .slice h.r.a h.r.n h.r.c, .slice h.o.a h.o.n h.o.c], .int .u8 107, .int .i64 n] w fun e w' => e = .returned (.bool (opnd c 6 n)) ∧ Below w.heap.size w w' := by
  have hb : ∀ o, Below w.heap.size w (w.alloc o) := fun o => (Below.refl w.heap.size w).alloc (Nat.le_refl _) o
  go_enter Tryz.func109, Tryz.ntmps109
  go_wp2_with (go_at_call 107; refine (in_any _ _ _ _).mono ?_; rintro e w' ⟨rfl, rfl⟩)
  go_ret
  exact ⟨rfl, hb _⟩
theorem operand75 (h : CodeH) (c : CodeD) (n : Int) (w : World) (_H : CodeAt w w.heap.size h c) : Calls Tryz.prog 109 #[.agg #[.slice h.i.a h.i.n h.i.c, .slice h.p.a h.p.n h.p.c, .slice h.t.a h.t.n h.t.c, .slice h.s.a h.s.n h.s.c, .slice h.g.a h.g.n h.g.c, .slice h.r.a h.r.n h.r.c, .slice h.o.a h.o.n h.o.c], .int .u8 75, .int .i64 n] w fun e w' => e = .returned (.bool (opnd c 7 n)) ∧ Below w.heap.size w w' := by
  have hb : ∀ o, Below w.heap.size w (w.alloc o) := fun o => (Below.refl w.heap.size w).alloc (Nat.le_refl _) o
  go_enter Tryz.func109, Tryz.ntmps109
  go_wp2_with (go_at_call 107; refine (in_any _ _ _ _).mono ?_; rintro e w' ⟨rfl, rfl⟩)
  go_ret
  exact ⟨rfl, hb _⟩
theorem operand109 (h : CodeH) (c : CodeD) (n : Int) (w : World) (_H : CodeAt w w.heap.size h c) : Calls Tryz.prog 109 #[.agg #[.slice h.i.a h.i.n h.i.c, .slice h.p.a h.p.n h.p.c, .slice h.t.a h.t.n h.t.c, .slice h.s.a h.s.n h.s.c, .slice h.g.a h.g.n h.g.c, .slice h.r.a h.r.n h.r.c, .slice h.o.a h.o.n h.o.c], .int .u8 109, .int .i64 n] w fun e w' => e = .returned (.bool (opnd c 8 n)) ∧ Below w.heap.size w w' := by
  have hb : ∀ o, Below w.heap.size w (w.alloc o) := fun o => (Below.refl w.heap.size w).alloc (Nat.le_refl _) o
  go_enter Tryz.func109, Tryz.ntmps109
  go_wp2_with (go_at_call 107; refine (in_any _ _ _ _).mono ?_; rintro e w' ⟨rfl, rfl⟩)
  go_ret
  exact ⟨rfl, hb _⟩
theorem operand121 (h : CodeH) (c : CodeD) (n : Int) (w : World) (_H : CodeAt w w.heap.size h c) : Calls Tryz.prog 109 #[.agg #[.slice h.i.a h.i.n h.i.c, .slice h.p.a h.p.n h.p.c, .slice h.t.a h.t.n h.t.c, .slice h.s.a h.s.n h.s.c, .slice h.g.a h.g.n h.g.c, .slice h.r.a h.r.n h.r.c, .slice h.o.a h.o.n h.o.c], .int .u8 121, .int .i64 n] w fun e w' => e = .returned (.bool (opnd c 9 n)) ∧ Below w.heap.size w w' := by
  have hb : ∀ o, Below w.heap.size w (w.alloc o) := fun o => (Below.refl w.heap.size w).alloc (Nat.le_refl _) o
  go_enter Tryz.func109, Tryz.ntmps109
  go_wp2_with (go_at_call 107; refine (in_any _ _ _ _).mono ?_; rintro e w' ⟨rfl, rfl⟩)
  go_ret
  exact ⟨ret_bool (by unfold opnd wiB; (try unfold tyB); rw [Bool.eq_iff_iff]; simp; omega), hb _⟩
theorem operand111 (h : CodeH) (c : CodeD) (n : Int) (w : World) (H : CodeAt w w.heap.size h c) : Calls Tryz.prog 109 #[.agg #[.slice h.i.a h.i.n h.i.c, .slice h.p.a h.p.n h.p.c, .slice h.t.a h.t.n h.t.c, .slice h.s.a h.s.n h.s.c, .slice h.g.a h.g.n h.g.c, .slice h.r.a h.r.n h.r.c, .slice h.o.a h.o.n h.o.c], .int .u8 111, .int .i64 n] w fun e w' => e = .returned (.bool (opnd c 11 n)) ∧ Below w.heap.size w w' := by
  have B0 := Lib.hid (BInv.start h w 30)
  have HC := Lib.hid H
  clear H
  go_enter Tryz.func109, Tryz.ntmps109
  go_wp2_with (go_at_call 141; refine (own_false h c _ _ (HC.out.at B0.out.b)).mono ?_; rintro e w' ⟨rfl, hb1⟩; have B1 := Lib.hid (B0.out.below hb1); clear hb1)
  go_ret
  exact ⟨rfl, B1.out.b⟩
theorem operand97 (h : CodeH) (c : CodeD) (n : Int) (w : World) (H : CodeAt w w.heap.size h c) : Calls Tryz.prog 109 #[.agg #[.slice h.i.a h.i.n h.i.c, .slice h.p.a h.p.n h.p.c, .slice h.t.a h.t.n h.t.c, .slice h.s.a h.s.n h.s.c, .slice h.g.a h.g.n h.g.c, .slice h.r.a h.r.n h.r.c, .slice h.o.a h.o.n h.o.c], .int .u8 97, .int .i64 n] w fun e w' => e = .returned (.bool (opnd c 12 n)) ∧ Below w.heap.size w w' := by
  have B0 := Lib.hid (BInv.start h w 30)
  have HC := Lib.hid H
  clear H
  go_enter Tryz.func109, Tryz.ntmps109
  go_wp2_with (go_at_call 141; refine (own_true h c _ _ (HC.out.at B0.out.b)).mono ?_; rintro e w' ⟨rfl, hb1⟩; have B1 := Lib.hid (B0.out.below hb1); clear hb1)
  go_ret
  exact ⟨rfl, B1.out.b⟩
theorem operand108 (h : CodeH) (c : CodeD) (n : Int) (w : World) (H : CodeAt w w.heap.size h c) : Calls Tryz.prog 109 #[.agg #[.slice h.i.a h.i.n h.i.c, .slice h.p.a h.p.n h.p.c, .slice h.t.a h.t.n h.t.c, .slice h.s.a h.s.n h.s.c, .slice h.g.a h.g.n h.g.c, .slice h.r.a h.r.n h.r.c, .slice h.o.a h.o.n h.o.c], .int .u8 108, .int .i64 n] w fun e w' => e = .returned (.bool (opnd c 16 n)) ∧ Below w.heap.size w w' := by
  have hb : ∀ o, Below w.heap.size w (w.alloc o) := fun o => (Below.refl w.heap.size w).alloc (Nat.le_refl _) o
  have hs : h.i.n ≤ 140737488351232 := H.ni.2
  have HL := Lib.hid H.ni.1
  clear H
  go_enter Tryz.func109, Tryz.ntmps109
  go_wp2_with (go_at_call 107; refine (in_any _ _ _ _).mono ?_; rintro e w' ⟨rfl, rfl⟩)
  go_ret
  exact ⟨ret_bool (by rw [HL.out]; rfl), hb _⟩
theorem operand99 (h : CodeH) (c : CodeD) (n : Int) (w : World) (_H : CodeAt w w.heap.size h c) : Calls Tryz.prog 109 #[.agg #[.slice h.i.a h.i.n h.i.c, .slice h.p.a h.p.n h.p.c, .slice h.t.a h.t.n h.t.c, .slice h.s.a h.s.n h.s.c, .slice h.g.a h.g.n h.g.c, .slice h.r.a h.r.n h.r.c, .slice h.o.a h.o.n h.o.c], .int .u8 99, .int .i64 n] w fun e w' => e = .returned (.bool (opnd c 18 n)) ∧ Below w.heap.size w w' := by
  have hb : ∀ o, Below w.heap.size w (w.alloc o) := fun o => (Below.refl w.heap.size w).alloc (Nat.le_refl _) o
  go_enter Tryz.func109, Tryz.ntmps109
  go_wp2_with (go_at_call 107; refine (in_any _ _ _ _).mono ?_; rintro e w' ⟨rfl, rfl⟩)
  go_ret
  exact ⟨rfl, hb _⟩
theorem operand100 (h : CodeH) (c : CodeD) (n : Int) (w : World) (_H : CodeAt w w.heap.size h c) : Calls Tryz.prog 109 #[.agg #[.slice h.i.a h.i.n h.i.c, .slice h.p.a h.p.n h.p.c, .slice h.t.a h.t.n h.t.c, .slice h.s.a h.s.n h.s.c, .slice h.g.a h.g.n h.g.c, .slice h.r.a h.r.n h.r.c, .slice h.o.a h.o.n h.o.c], .int .u8 100, .int .i64 n] w fun e w' => e = .returned (.bool (opnd c 19 n)) ∧ Below w.heap.size w w' := by
  have hb : ∀ o, Below w.heap.size w (w.alloc o) := fun o => (Below.refl w.heap.size w).alloc (Nat.le_refl _) o
  go_enter Tryz.func109, Tryz.ntmps109
  go_wp2_with (go_at_call 107; refine (in_any _ _ _ _).mono ?_; rintro e w' ⟨rfl, rfl⟩)
  go_ret
  exact ⟨rfl, hb _⟩
theorem operand103 (h : CodeH) (c : CodeD) (n : Int) (w : World) (_H : CodeAt w w.heap.size h c) : Calls Tryz.prog 109 #[.agg #[.slice h.i.a h.i.n h.i.c, .slice h.p.a h.p.n h.p.c, .slice h.t.a h.t.n h.t.c, .slice h.s.a h.s.n h.s.c, .slice h.g.a h.g.n h.g.c, .slice h.r.a h.r.n h.r.c, .slice h.o.a h.o.n h.o.c], .int .u8 103, .int .i64 n] w fun e w' => e = .returned (.bool (opnd c 20 n)) ∧ Below w.heap.size w w' := by
  have hb : ∀ o, Below w.heap.size w (w.alloc o) := fun o => (Below.refl w.heap.size w).alloc (Nat.le_refl _) o
  go_enter Tryz.func109, Tryz.ntmps109
  go_wp2_with (go_at_call 107; refine (in_any _ _ _ _).mono ?_; rintro e w' ⟨rfl, rfl⟩)
  go_ret
  exact ⟨rfl, hb _⟩
theorem operand49 (h : CodeH) (c : CodeD) (n : Int) (w : World) (_H : CodeAt w w.heap.size h c) : Calls Tryz.prog 109 #[.agg #[.slice h.i.a h.i.n h.i.c, .slice h.p.a h.p.n h.p.c, .slice h.t.a h.t.n h.t.c, .slice h.s.a h.s.n h.s.c, .slice h.g.a h.g.n h.g.c, .slice h.r.a h.r.n h.r.c, .slice h.o.a h.o.n h.o.c], .int .u8 49, .int .i64 n] w fun e w' => e = .returned (.bool (opnd c 21 n)) ∧ Below w.heap.size w w' := by
  have hb : ∀ o, Below w.heap.size w (w.alloc o) := fun o => (Below.refl w.heap.size w).alloc (Nat.le_refl _) o
  go_enter Tryz.func109, Tryz.ntmps109
  go_wp2_with (go_at_call 107; refine (in_any _ _ _ _).mono ?_; rintro e w' ⟨rfl, rfl⟩)
  go_ret
  exact ⟨ret_bool (by unfold opnd wiB; (try unfold tyB); rw [Bool.eq_iff_iff]; simp; omega), hb _⟩
theorem operand50 (h : CodeH) (c : CodeD) (n : Int) (w : World) (_H : CodeAt w w.heap.size h c) : Calls Tryz.prog 109 #[.agg #[.slice h.i.a h.i.n h.i.c, .slice h.p.a h.p.n h.p.c, .slice h.t.a h.t.n h.t.c, .slice h.s.a h.s.n h.s.c, .slice h.g.a h.g.n h.g.c, .slice h.r.a h.r.n h.r.c, .slice h.o.a h.o.n h.o.c], .int .u8 50, .int .i64 n] w fun e w' => e = .returned (.bool (opnd c 22 n)) ∧ Below w.heap.size w w' := by
  have hb : ∀ o, Below w.heap.size w (w.alloc o) := fun o => (Below.refl w.heap.size w).alloc (Nat.le_refl _) o
  go_enter Tryz.func109, Tryz.ntmps109
  go_wp2_with (go_at_call 107; refine (in_any _ _ _ _).mono ?_; rintro e w' ⟨rfl, rfl⟩)
  go_ret
  exact ⟨rfl, hb _⟩
theorem operand117 (h : CodeH) (c : CodeD) (n : Int) (w : World) (_H : CodeAt w w.heap.size h c) : Calls Tryz.prog 109 #[.agg #[.slice h.i.a h.i.n h.i.c, .slice h.p.a h.p.n h.p.c, .slice h.t.a h.t.n h.t.c, .slice h.s.a h.s.n h.s.c, .slice h.g.a h.g.n h.g.c, .slice h.r.a h.r.n h.r.c, .slice h.o.a h.o.n h.o.c], .int .u8 117, .int .i64 n] w fun e w' => e = .returned (.bool (opnd c 23 n)) ∧ Below w.heap.size w w' := by
  have hb : ∀ o, Below w.heap.size w (w.alloc o) := fun o => (Below.refl w.heap.size w).alloc (Nat.le_refl _) o
  go_enter Tryz.func109, Tryz.ntmps109
  go_wp2_with (go_at_call 107; refine (in_any _ _ _ _).mono ?_; rintro e w' ⟨rfl, rfl⟩)
  go_ret
  exact ⟨rfl, hb _⟩
theorem operand120 (h : CodeH) (c : CodeD) (n : Int) (w : World) (_H : CodeAt w w.heap.size h c) : Calls Tryz.prog 109 #[.agg #[.slice h.i.a h.i.n h.i.c, .slice h.p.a h.p.n h.p.c, .slice h.t.a h.t.n h.t.c, .slice h.s.a h.s.n h.s.c, .slice h.g.a h.g.n h.g.c, .slice h.r.a h.r.n h.r.c, .slice h.o.a h.o.n h.o.c], .int .u8 120, .int .i64 n] w fun e w' => e = .returned (.bool (opnd c 10 n)) ∧ Below w.heap.size w w' := by
  have hb : ∀ o, Below w.heap.size w (w.alloc o) := fun o => (Below.refl w.heap.size w).alloc (Nat.le_refl _) o
  go_enter Tryz.func109, Tryz.ntmps109
  go_wp2_with (go_at_call 107; refine (in_any _ _ _ _).mono ?_; rintro e w' ⟨rfl, rfl⟩)
  go_ret
  exact ⟨ret_bool (by unfold opnd wiB; (try unfold tyB); rw [Bool.eq_iff_iff]; simp; omega), hb _⟩
theorem operand122 (h : CodeH) (c : CodeD) (n : Int) (w : World) (_H : CodeAt w w.heap.size h c) : Calls Tryz.prog 109 #[.agg #[.slice h.i.a h.i.n h.i.c, .slice h.p.a h.p.n h.p.c, .slice h.t.a h.t.n h.t.c, .slice h.s.a h.s.n h.s.c, .slice h.g.a h.g.n h.g.c, .slice h.r.a h.r.n h.r.c, .slice h.o.a h.o.n h.o.c], .int .u8 122, .int .i64 n] w fun e w' => e = .returned (.bool (opnd c 24 n)) ∧ Below w.heap.size w w' := by
  have hb : ∀ o, Below w.heap.size w (w.alloc o) := fun o => (Below.refl w.heap.size w).alloc (Nat.le_refl _) o
  go_enter Tryz.func109, Tryz.ntmps109
  go_wp2_with (go_at_call 107; refine (in_any _ _ _ _).mono ?_; rintro e w' ⟨rfl, rfl⟩)
  go_ret
  exact ⟨rfl, hb _⟩
/-- The number of the rule that a letter stands for. -/
def letNo (L : Int) : Nat := if L = 110 then 1 else if L = 114 then 2 else if L = 98 then 3 else if L = 115 then 4 else if L = 116 then 13 else if L = 112 then 14 else if L = 102 then 15 else if L = 119 then 17 else if L = 104 then 5 else if L = 107 then 6 else if L = 75 then 7 else if L = 109 then 8 else if L = 121 then 9 else if L = 111 then 11 else if L = 97 then 12 else if L = 108 then 16 else if L = 99 then 18 else if L = 100 then 19 else if L = 103 then 20 else if L = 49 then 21 else if L = 50 then 22 else if L = 117 then 23 else if L = 120 then 10 else if L = 122 then 24 else 0
def letters : List Int := [110, 114, 98, 115, 116, 112, 102, 119, 104, 107, 75, 109, 121, 111, 97, 108, 99, 100, 103, 49, 50, 117, 120, 122]
/-- operand of the reference: a letter's numbers. -/
theorem operand_any (L : Int) (hL : L ∈ letters) (h : CodeH) (c : CodeD) (n : Int) (w : World) (H : CodeAt w w.heap.size h c) : Calls Tryz.prog 109 #[.agg #[.slice h.i.a h.i.n h.i.c, .slice h.p.a h.p.n h.p.c, .slice h.t.a h.t.n h.t.c, .slice h.s.a h.s.n h.s.c, .slice h.g.a h.g.n h.g.c, .slice h.r.a h.r.n h.r.c, .slice h.o.a h.o.n h.o.c], .int .u8 L, .int .i64 n] w fun e w' => e = .returned (.bool (opnd c (letNo L) n)) ∧ Below w.heap.size w w' := by
  simp only [letters, List.mem_cons, List.not_mem_nil, or_false] at hL
  rcases hL with rfl | rfl | rfl | rfl | rfl | rfl | rfl | rfl | rfl | rfl | rfl | rfl | rfl | rfl | rfl | rfl | rfl | rfl | rfl | rfl | rfl | rfl | rfl | rfl
  · exact operand110 h c n w H
  · exact operand114 h c n w H
  · exact operand98 h c n w H
  · exact operand115 h c n w H
  · exact operand116 h c n w H
  · exact operand112 h c n w H
  · exact operand102 h c n w H
  · exact operand119 h c n w H
  · exact operand104 h c n w H
  · exact operand107 h c n w H
  · exact operand75 h c n w H
  · exact operand109 h c n w H
  · exact operand121 h c n w H
  · exact operand111 h c n w H
  · exact operand97 h c n w H
  · exact operand108 h c n w H
  · exact operand99 h c n w H
  · exact operand100 h c n w H
  · exact operand103 h c n w H
  · exact operand49 h c n w H
  · exact operand50 h c n w H
  · exact operand117 h c n w H
  · exact operand120 h c n w H
  · exact operand122 h c n w H
end Go.Proofs.YtmfnholhhakgaaaGreatDoor
