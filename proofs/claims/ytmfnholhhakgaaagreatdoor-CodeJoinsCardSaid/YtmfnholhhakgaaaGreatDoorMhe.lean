/- The rules of operands: contracts; the table of rules. -/
import Derived.Test.YtmfnholhhakgaaaGreatDoorMhd
section
namespace Go.Proofs.YtmfnholhhakgaaaGreatDoor
open Go Go.Proofs Go.RowKit
set_option maxRecDepth 100000
def ownAt (c : CodeD) (n : Int) : Int := (c.owns[n.toNat]?).getD 0
def procTypeAt (c : CodeD) (n : Int) : Int := ((c.procs[n.toNat]?).map (·.type)).getD 0
/-- Whether a number is a valid operand of a kind. -/
def opnd (c : CodeD) (q : Nat) (n : Int) : Bool :=
  match q with
  | 0 => wiB n 0 0
  | 1 => wiB n (-2147483647) 2147483647
  | 2 => wiB n 0 ((c.reals.length : Int) - 1)
  | 3 => wiB n 0 1
  | 4 => wiB n 0 ((c.strings.length : Int) - 1)
  | 5 => wiB n 0 200
  | 6 => wiB n 0 1999
  | 7 => wiB n (-1) 1999
  | 8 => wiB n 0 2000
  | 9 => tyB n
  | 10 => tyB n || decide (n = 4)
  | 11 => wiB n 0 ((c.owns.length : Int) - 1) && decide (ownAt c n ≠ 0)
  | 12 => wiB n 0 ((c.owns.length : Int) - 1) && decide (ownAt c n = 0)
  | 13 => wiB n 0 ((c.thunks.length : Int) - 1)
  | 14 => wiB n 0 ((c.procs.length : Int) - 1)
  | 15 => wiB n 0 ((c.procs.length : Int) - 1) && decide (procTypeAt c n ≠ 0)
  | 16 => wiB n 0 ((c.instrs.length : Int) - 1)
  | 17 => wiB n 0 ((c.switches.length : Int) - 1)
  | 18 => wiB n 0 8
  | 19 => wiB n 1 4
  | 20 => wiB n 1 2000
  | 21 => decide (n = 1) || decide (n = 2)
  | 22 => wiB n 3 18
  | 23 => wiB n 1 3
  | _ => wiB n 2 9
theorem wi_bounds {n lo hi : Int} (h : wiB n lo hi = true) : lo ≤ n ∧ n ≤ hi := by unfold wiB at h; simpa using h
theorem rule90 (h : CodeH) (c : CodeD) (n : Int) (w : World) (H : CodeAt w w.heap.size h c) : Calls Tryz.prog 90 #[.agg #[.slice h.i.a h.i.n h.i.c, .slice h.p.a h.p.n h.p.c, .slice h.t.a h.t.n h.t.c, .slice h.s.a h.s.n h.s.c, .slice h.g.a h.g.n h.g.c, .slice h.r.a h.r.n h.r.c, .slice h.o.a h.o.n h.o.c], .int .i64 n] w fun e w' => e = .returned (.bool (opnd c 2 n)) ∧ Below w.heap.size w w' := by
  have hb : ∀ o, Below w.heap.size w (w.alloc o) := fun o => (Below.refl w.heap.size w).alloc (Nat.le_refl _) o
  have hs : h.r.n ≤ 140737488351232 := H.nr.2
  have HL := Lib.hid H.nr.1
  clear H
  go_enter Tryz.func90, Tryz.ntmps90
  go_wp2_with (go_at_call 79; refine (within_any _ _ _ _).mono ?_; rintro e w' ⟨rfl, rfl⟩)
  go_ret
  exact ⟨ret_bool (by rw [HL.out]; rfl), hb _⟩
theorem rule91 (h : CodeH) (c : CodeD) (n : Int) (w : World) (H : CodeAt w w.heap.size h c) : Calls Tryz.prog 91 #[.agg #[.slice h.i.a h.i.n h.i.c, .slice h.p.a h.p.n h.p.c, .slice h.t.a h.t.n h.t.c, .slice h.s.a h.s.n h.s.c, .slice h.g.a h.g.n h.g.c, .slice h.r.a h.r.n h.r.c, .slice h.o.a h.o.n h.o.c], .int .i64 n] w fun e w' => e = .returned (.bool (opnd c 4 n)) ∧ Below w.heap.size w w' := by
  have hb : ∀ o, Below w.heap.size w (w.alloc o) := fun o => (Below.refl w.heap.size w).alloc (Nat.le_refl _) o
  have hs : h.g.n ≤ 140737488351232 := H.ng.2
  have HL := Lib.hid H.ng.1
  clear H
  go_enter Tryz.func91, Tryz.ntmps91
  go_wp2_with (go_at_call 79; refine (within_any _ _ _ _).mono ?_; rintro e w' ⟨rfl, rfl⟩)
  go_ret
  exact ⟨ret_bool (by rw [HL.out]; rfl), hb _⟩
theorem rule96 (h : CodeH) (c : CodeD) (n : Int) (w : World) (H : CodeAt w w.heap.size h c) : Calls Tryz.prog 96 #[.agg #[.slice h.i.a h.i.n h.i.c, .slice h.p.a h.p.n h.p.c, .slice h.t.a h.t.n h.t.c, .slice h.s.a h.s.n h.s.c, .slice h.g.a h.g.n h.g.c, .slice h.r.a h.r.n h.r.c, .slice h.o.a h.o.n h.o.c], .int .i64 n] w fun e w' => e = .returned (.bool (opnd c 13 n)) ∧ Below w.heap.size w w' := by
  have hb : ∀ o, Below w.heap.size w (w.alloc o) := fun o => (Below.refl w.heap.size w).alloc (Nat.le_refl _) o
  have hs : h.t.n ≤ 140737488351232 := H.nt.2
  have HL := Lib.hid H.nt.1
  clear H
  go_enter Tryz.func96, Tryz.ntmps96
  go_wp2_with (go_at_call 79; refine (within_any _ _ _ _).mono ?_; rintro e w' ⟨rfl, rfl⟩)
  go_ret
  exact ⟨ret_bool (by rw [HL.out]; rfl), hb _⟩
theorem rule97 (h : CodeH) (c : CodeD) (n : Int) (w : World) (H : CodeAt w w.heap.size h c) : Calls Tryz.prog 97 #[.agg #[.slice h.i.a h.i.n h.i.c, .slice h.p.a h.p.n h.p.c, .slice h.t.a h.t.n h.t.c, .slice h.s.a h.s.n h.s.c, .slice h.g.a h.g.n h.g.c, .slice h.r.a h.r.n h.r.c, .slice h.o.a h.o.n h.o.c], .int .i64 n] w fun e w' => e = .returned (.bool (opnd c 14 n)) ∧ Below w.heap.size w w' := by
  have hb : ∀ o, Below w.heap.size w (w.alloc o) := fun o => (Below.refl w.heap.size w).alloc (Nat.le_refl _) o
  have hs : h.p.n ≤ 140737488351232 := H.np.2
  have HL := Lib.hid H.np.1
  clear H
  go_enter Tryz.func97, Tryz.ntmps97
  go_wp2_with (go_at_call 79; refine (within_any _ _ _ _).mono ?_; rintro e w' ⟨rfl, rfl⟩)
  go_ret
  exact ⟨ret_bool (by rw [HL.out]; rfl), hb _⟩
theorem rule99 (h : CodeH) (c : CodeD) (n : Int) (w : World) (H : CodeAt w w.heap.size h c) : Calls Tryz.prog 99 #[.agg #[.slice h.i.a h.i.n h.i.c, .slice h.p.a h.p.n h.p.c, .slice h.t.a h.t.n h.t.c, .slice h.s.a h.s.n h.s.c, .slice h.g.a h.g.n h.g.c, .slice h.r.a h.r.n h.r.c, .slice h.o.a h.o.n h.o.c], .int .i64 n] w fun e w' => e = .returned (.bool (opnd c 16 n)) ∧ Below w.heap.size w w' := by
  have hb : ∀ o, Below w.heap.size w (w.alloc o) := fun o => (Below.refl w.heap.size w).alloc (Nat.le_refl _) o
  have hs : h.i.n ≤ 140737488351232 := H.ni.2
  have HL := Lib.hid H.ni.1
  clear H
  go_enter Tryz.func99, Tryz.ntmps99
  go_wp2_with (go_at_call 79; refine (within_any _ _ _ _).mono ?_; rintro e w' ⟨rfl, rfl⟩)
  go_ret
  exact ⟨ret_bool (by rw [HL.out]; rfl), hb _⟩
theorem rule100 (h : CodeH) (c : CodeD) (n : Int) (w : World) (H : CodeAt w w.heap.size h c) : Calls Tryz.prog 100 #[.agg #[.slice h.i.a h.i.n h.i.c, .slice h.p.a h.p.n h.p.c, .slice h.t.a h.t.n h.t.c, .slice h.s.a h.s.n h.s.c, .slice h.g.a h.g.n h.g.c, .slice h.r.a h.r.n h.r.c, .slice h.o.a h.o.n h.o.c], .int .i64 n] w fun e w' => e = .returned (.bool (opnd c 17 n)) ∧ Below w.heap.size w w' := by
  have hb : ∀ o, Below w.heap.size w (w.alloc o) := fun o => (Below.refl w.heap.size w).alloc (Nat.le_refl _) o
  have hs : h.s.n ≤ 140737488351232 := H.ns.2
  have HL := Lib.hid H.ns.1
  clear H
  go_enter Tryz.func100, Tryz.ntmps100
  go_wp2_with (go_at_call 79; refine (within_any _ _ _ _).mono ?_; rintro e w' ⟨rfl, rfl⟩)
  go_ret
  exact ⟨ret_bool (by rw [HL.out]; rfl), hb _⟩
theorem rule92 (h : CodeH) (c : CodeD) (n : Int) (w : World) : Calls Tryz.prog 92 #[.agg #[.slice h.i.a h.i.n h.i.c, .slice h.p.a h.p.n h.p.c, .slice h.t.a h.t.n h.t.c, .slice h.s.a h.s.n h.s.c, .slice h.g.a h.g.n h.g.c, .slice h.r.a h.r.n h.r.c, .slice h.o.a h.o.n h.o.c], .int .i64 n] w fun e w' => e = .returned (.bool (opnd c 9 n)) ∧ Below w.heap.size w w' := by
  have hb : ∀ o, Below w.heap.size w (w.alloc o) := fun o => (Below.refl w.heap.size w).alloc (Nat.le_refl _) o
  go_enter Tryz.func92, Tryz.ntmps92
  go_wp2_with (go_at_call 83; refine (isType_any _ _).mono ?_; rintro e w' ⟨rfl, rfl⟩)
  go_ret
  exact ⟨rfl, hb _⟩
theorem rule93 (h : CodeH) (c : CodeD) (n : Int) (w : World) : Calls Tryz.prog 93 #[.agg #[.slice h.i.a h.i.n h.i.c, .slice h.p.a h.p.n h.p.c, .slice h.t.a h.t.n h.t.c, .slice h.s.a h.s.n h.s.c, .slice h.g.a h.g.n h.g.c, .slice h.r.a h.r.n h.r.c, .slice h.o.a h.o.n h.o.c], .int .i64 n] w fun e w' => e = .returned (.bool (opnd c 10 n)) ∧ Below w.heap.size w w' := by
  have hb : ∀ o, Below w.heap.size w (w.alloc o) := fun o => (Below.refl w.heap.size w).alloc (Nat.le_refl _) o
  cases ht : tyB n with
  | true =>
    have HT := Lib.hid ht
    go_enter Tryz.func93, Tryz.ntmps93
    go_wp2_with (go_at_call 83; refine (isType_any _ _).mono ?_; rintro e w' ⟨rfl, rfl⟩)
    go_ret
    exact ⟨ret_bool (by unfold opnd; rw [HT.out]; rfl), hb _⟩
  | false =>
    have HT := Lib.hid ht
    go_enter Tryz.func93, Tryz.ntmps93
    go_wp2_with (go_at_call 83; refine (isType_any _ _).mono ?_; rintro e w' ⟨rfl, rfl⟩)
    go_ret
    exact ⟨ret_bool (by unfold opnd; rw [HT.out, Bool.eq_iff_iff]; simp), hb _⟩
theorem rule101 (h : CodeH) (c : CodeD) (n : Int) (w : World) : Calls Tryz.prog 101 #[.agg #[.slice h.i.a h.i.n h.i.c, .slice h.p.a h.p.n h.p.c, .slice h.t.a h.t.n h.t.c, .slice h.s.a h.s.n h.s.c, .slice h.g.a h.g.n h.g.c, .slice h.r.a h.r.n h.r.c, .slice h.o.a h.o.n h.o.c], .int .i64 n] w fun e w' => e = .returned (.bool (opnd c 21 n)) ∧ Below w.heap.size w w' := by
  have hb : ∀ o, Below w.heap.size w (w.alloc o) := fun o => (Below.refl w.heap.size w).alloc (Nat.le_refl _) o
  go_enter Tryz.func101, Tryz.ntmps101
  go_wp2
  all_goals go_ret
  all_goals exact ⟨ret_bool (by unfold opnd; rw [Bool.eq_iff_iff]; simp; try omega), hb _⟩
theorem rule140 (h : CodeH) (n lo hi : Int) (p q : Nat) (w : World) (hlo : w.cell? ⟨p, 0, none⟩ = some (.int .i64 lo)) (hhi : w.cell? ⟨q, 0, none⟩ = some (.int .i64 hi)) :
    Calls Tryz.prog 140 #[.agg #[.slice h.i.a h.i.n h.i.c, .slice h.p.a h.p.n h.p.c, .slice h.t.a h.t.n h.t.c, .slice h.s.a h.s.n h.s.c, .slice h.g.a h.g.n h.g.c, .slice h.r.a h.r.n h.r.c, .slice h.o.a h.o.n h.o.c], .int .i64 n, .pointer (some ⟨p, 0, none⟩), .pointer (some ⟨q, 0, none⟩)] w fun e w' => e = .returned (.bool (wiB n lo hi)) ∧ Below w.heap.size w w' := by
  have hb : ∀ o, Below w.heap.size w (w.alloc o) := fun o => (Below.refl w.heap.size w).alloc (Nat.le_refl _) o
  have h1 : ∀ o, (w.alloc o).cell? ⟨p, 0, none⟩ = some (.int .i64 lo) := fun o => (World.cell?_alloc_lt _ _ _ (World.block_lt_of_cell? w _ hlo)).trans hlo
  have h2 : ∀ o, (w.alloc o).cell? ⟨q, 0, none⟩ = some (.int .i64 hi) := fun o => (World.cell?_alloc_lt _ _ _ (World.block_lt_of_cell? w _ hhi)).trans hhi
  clear hlo hhi
  go_enter Tryz.func140, Tryz.ntmps140
  go_wp2_with (go_at_call 79; refine (within_any _ _ _ _).mono ?_; rintro e w' ⟨rfl, rfl⟩)
  go_ret
  exact ⟨rfl, hb _⟩
theorem rule94 (h : CodeH) (c : CodeD) (n : Int) (w : World) (H : CodeAt w w.heap.size h c) : Calls Tryz.prog 94 #[.agg #[.slice h.i.a h.i.n h.i.c, .slice h.p.a h.p.n h.p.c, .slice h.t.a h.t.n h.t.c, .slice h.s.a h.s.n h.s.c, .slice h.g.a h.g.n h.g.c, .slice h.r.a h.r.n h.r.c, .slice h.o.a h.o.n h.o.c], .int .i64 n] w fun e w' => e = .returned (.bool (opnd c 11 n)) ∧ Below w.heap.size w w' := by
  have hb : ∀ o, Below w.heap.size w (w.alloc o) := fun o => (Below.refl w.heap.size w).alloc (Nat.le_refl _) o
  have hs : h.o.n ≤ 140737488351232 := H.no.2
  have HL := Lib.hid H.no.1
  cases hw : wiB n 0 ((h.o.n : Int) - 1) with
  | true =>
    have hbd := wi_bounds hw
    obtain ⟨k, rfl⟩ : ∃ k : Nat, n = k := ⟨n.toNat, by omega⟩
    have hk : k < h.o.n := by omega
    obtain ⟨ad, x, had, hx, hab, c0⟩ := Reads.elem1 (f := Value.int .i64) H.o H.no.1 hk
    have c1 : ∀ o, (w.alloc o).cell? (ad.add k) = some (.int .i64 x) := fun o => (World.cell?_alloc_lt _ _ _ (by rw [block_of_add]; exact hab)).trans c0
    have HX := Lib.hid hx
    rw [had]
    clear hx had hab c0 hbd H
    have HW := Lib.hid hw
    go_enter Tryz.func94, Tryz.ntmps94
    go_wp2_with (go_at_call 79; refine (within_any _ _ _ _).mono ?_; rintro e w' ⟨rfl, rfl⟩)
    go_ret
    exact ⟨ret_bool (by unfold opnd ownAt; rw [Bool.eq_iff_iff]; simp [← HL.out, HW.out, HX.out]), hb _⟩
  | false =>
    have HW := Lib.hid hw
    clear H
    go_enter Tryz.func94, Tryz.ntmps94
    go_wp2_with (go_at_call 79; refine (within_any _ _ _ _).mono ?_; rintro e w' ⟨rfl, rfl⟩)
    go_ret
    exact ⟨ret_bool (by unfold opnd; rw [← HL.out, HW.out]; rfl), hb _⟩
theorem rule95 (h : CodeH) (c : CodeD) (n : Int) (w : World) (H : CodeAt w w.heap.size h c) : Calls Tryz.prog 95 #[.agg #[.slice h.i.a h.i.n h.i.c, .slice h.p.a h.p.n h.p.c, .slice h.t.a h.t.n h.t.c, .slice h.s.a h.s.n h.s.c, .slice h.g.a h.g.n h.g.c, .slice h.r.a h.r.n h.r.c, .slice h.o.a h.o.n h.o.c], .int .i64 n] w fun e w' => e = .returned (.bool (opnd c 12 n)) ∧ Below w.heap.size w w' := by
  have hb : ∀ o, Below w.heap.size w (w.alloc o) := fun o => (Below.refl w.heap.size w).alloc (Nat.le_refl _) o
  have hs : h.o.n ≤ 140737488351232 := H.no.2
  have HL := Lib.hid H.no.1
  cases hw : wiB n 0 ((h.o.n : Int) - 1) with
  | true =>
    have hbd := wi_bounds hw
    obtain ⟨k, rfl⟩ : ∃ k : Nat, n = k := ⟨n.toNat, by omega⟩
    have hk : k < h.o.n := by omega
    obtain ⟨ad, x, had, hx, hab, c0⟩ := Reads.elem1 (f := Value.int .i64) H.o H.no.1 hk
    have c1 : ∀ o, (w.alloc o).cell? (ad.add k) = some (.int .i64 x) := fun o => (World.cell?_alloc_lt _ _ _ (by rw [block_of_add]; exact hab)).trans c0
    have HX := Lib.hid hx
    rw [had]
    clear hx had hab c0 hbd H
    have HW := Lib.hid hw
    go_enter Tryz.func95, Tryz.ntmps95
    go_wp2_with (go_at_call 79; refine (within_any _ _ _ _).mono ?_; rintro e w' ⟨rfl, rfl⟩)
    go_ret
    exact ⟨ret_bool (by unfold opnd ownAt; rw [Bool.eq_iff_iff]; simp [← HL.out, HW.out, HX.out]), hb _⟩
  | false =>
    have HW := Lib.hid hw
    clear H
    go_enter Tryz.func95, Tryz.ntmps95
    go_wp2_with (go_at_call 79; refine (within_any _ _ _ _).mono ?_; rintro e w' ⟨rfl, rfl⟩)
    go_ret
    exact ⟨ret_bool (by unfold opnd; rw [← HL.out, HW.out]; rfl), hb _⟩
theorem rule98 (h : CodeH) (c : CodeD) (n : Int) (w : World) (H : CodeAt w w.heap.size h c) : Calls Tryz.prog 98 #[.agg #[.slice h.i.a h.i.n h.i.c, .slice h.p.a h.p.n h.p.c, .slice h.t.a h.t.n h.t.c, .slice h.s.a h.s.n h.s.c, .slice h.g.a h.g.n h.g.c, .slice h.r.a h.r.n h.r.c, .slice h.o.a h.o.n h.o.c], .int .i64 n] w fun e w' => e = .returned (.bool (opnd c 15 n)) ∧ Below w.heap.size w w' := by
  have hb : ∀ o, Below w.heap.size w (w.alloc o) := fun o => (Below.refl w.heap.size w).alloc (Nat.le_refl _) o
  have hs : h.p.n ≤ 140737488351232 := H.np.2
  have HL := Lib.hid H.np.1
  cases hw : wiB n 0 ((h.p.n : Int) - 1) with
  | true =>
    have hbd := wi_bounds hw
    obtain ⟨k, rfl⟩ : ∃ k : Nat, n = k := ⟨n.toNat, by omega⟩
    have hk : k < h.p.n := by omega
    obtain ⟨ad, x, had, hx, hab, hc⟩ := Reads.elem (f := ProcD.cells) (fun _ => rfl) H.p H.np.1 hk
    have c0 := hc 2 _ (by omega) rfl
    have c1 : ∀ o, (w.alloc o).cell? ((ad.add (k * 5)).add 2) = some (.int .i64 x.type) := fun o => (World.cell?_alloc_lt _ _ _ (by rw [block_of_add, block_of_add]; exact hab)).trans c0
    rw [show (ad.add (k * 5)).add 2 = { block := (ad.add (k * 5)).block, off := (ad.add (k * 5)).off + 2 } from rfl] at c1
    have HX := Lib.hid hx
    rw [had]
    clear hx had hab c0 hbd H hc
    have HW := Lib.hid hw
    go_enter Tryz.func98, Tryz.ntmps98
    go_wp2_with (go_at_call 79; refine (within_any _ _ _ _).mono ?_; rintro e w' ⟨rfl, rfl⟩)
    go_ret
    exact ⟨ret_bool (by unfold opnd procTypeAt; rw [Bool.eq_iff_iff]; simp [← HL.out, HW.out, HX.out]), hb _⟩
  | false =>
    have HW := Lib.hid hw
    clear H
    go_enter Tryz.func98, Tryz.ntmps98
    go_wp2_with (go_at_call 79; refine (within_any _ _ _ _).mono ?_; rintro e w' ⟨rfl, rfl⟩)
    go_ret
    exact ⟨ret_bool (by unfold opnd; rw [← HL.out, HW.out]; rfl), hb _⟩
end Go.Proofs.YtmfnholhhakgaaaGreatDoor
end
section
namespace Go.Proofs.YtmfnholhhakgaaaGreatDoor
open Go Go.Proofs Go.RowKit
set_option maxRecDepth 100000
/-- A rule: a function that captures nothing, or between's, with its bounds in blocks b and b + 1. -/
inductive RuleV where
  | lit (f : FuncId)
  | btw (b : Nat) (lo hi : Int)
def RuleV.val : RuleV → Value
  | .lit f => .agg #[.func (.func f) #[] #[]]
  | .btw b _ _ => .agg #[.func (.func 140) #[] #[.pointer (some ⟨b, 0, none⟩), .pointer (some ⟨b + 1, 0, none⟩)]]
def RuleV.ok (N : Nat) (w : World) : RuleV → Prop
  | .lit _ => True
  | .btw b lo hi => N < b ∧ w.cell? ⟨b, 0, none⟩ = some (.int .i64 lo) ∧ w.cell? ⟨b + 1, 0, none⟩ = some (.int .i64 hi)
def rEntries (L : List RuleV) : List MapEntry := L.zipIdx.map fun x => { key := .int .i64 (x.2 : Nat), val := x.1.val, born := x.2 }
theorem rEntries_snoc (L : List RuleV) (r : RuleV) : rEntries (L ++ [r]) = rEntries L ++ [{ key := .int .i64 (L.length : Nat), val := r.val, born := L.length }] := by
  unfold rEntries
  rw [List.zipIdx_append]
  simp
theorem rEntries_keys (L : List RuleV) : ∀ x ∈ rEntries L, ∃ m : Nat, x.key = .int .i64 (m : Nat) ∧ m < L.length := by
  intro x hx
  obtain ⟨j, hj⟩ := List.mem_iff_getElem?.1 hx
  unfold rEntries at hj
  rw [List.getElem?_map, List.getElem?_zipIdx] at hj
  obtain ⟨y, hy, rfl⟩ := Option.map_eq_some_iff.1 hj
  obtain ⟨z, hz, rfl⟩ := Option.map_eq_some_iff.1 hy
  have := (List.getElem?_eq_some_iff.1 hz).1
  exact ⟨0 + j, rfl, by omega⟩
/-- The map in block N holds the rules L. -/
structure RInv (N : Nat) (w0 w : World) (L : List RuleV) : Prop where
  b : Below N w0 w
  m : w.heap[N]? = some (.map (rEntries L).toArray L.length)
  o : ∀ r ∈ L, r.ok N w
theorem RuleV.ok.grown {N : Nat} {w w' : World} {r : RuleV} (h : r.ok N w) (hg : w.grownBy w' (some N)) : r.ok N w' := by
  cases r with
  | lit f => trivial
  | btw b lo hi =>
    obtain ⟨h0, h1, h2⟩ := h
    exact ⟨h0, (World.cell?_of_block (hg.block b (World.block_lt_of_cell? w _ h1) (by simp; omega))).trans h1, (World.cell?_of_block (hg.block (b + 1) (World.block_lt_of_cell? w _ h2) (by simp; omega))).trans h2⟩
theorem RInv.alloc {N : Nat} {w0 w : World} {L : List RuleV} (H : RInv N w0 w L) (o : Obj) : RInv N w0 (w.alloc o) L := by
  have hlt := (Array.getElem?_eq_some_iff.1 H.m).1
  exact { b := H.b.alloc (by omega) o, m := (heap_alloc_old w o hlt).trans H.m, o := fun r hr => (H.o r hr).grown ((World.grownBy_alloc w o none).but _) }
theorem run_insert_rule {N : Nat} {w0 w : World} {L : List RuleV} (H : RInv N w0 w L) (r : RuleV) (hr : r.ok N w) :
    ∃ w', (Instr.mapUpdate 81 (.map (some N)) (.int .i64 (L.length : Nat)) r.val).run Tryz.prog w = .ok () w' ∧ RInv N w0 w' (L ++ [r]) ∧ w'.heap.size = w.heap.size := by
  have h1 := findNow_none (q := .i64) (n := (L.length : Nat)) (rEntries L) 0 (fun x hx => by
    obtain ⟨m, hm, hlt⟩ := rEntries_keys L x hx
    exact ⟨_, hm, by omega⟩)
  refine ⟨ChangeMaps.setBlock w N (.map (rEntries (L ++ [r])).toArray (L ++ [r]).length), ?_, ?_, by simp [ChangeMaps.setBlock]⟩
  · simp [Instr.mapUpdate, run_underlying Tryz.underlying81, MapKept.run_getObj_map H.m, run_check_int Tryz.underlying3, run_find_int Tryz.underlying3 _ _ _ h1, MapKept.run_setObj_map _ H.m, Result.andThen, rEntries_snoc]
    rfl
  · have hg : w.grownBy (ChangeMaps.setBlock w N (.map (rEntries (L ++ [r])).toArray (L ++ [r]).length)) (some N) :=
      ⟨rfl, rfl, rfl, by simp [ChangeMaps.setBlock], fun i _ hi => setBlock_other _ (fun e => hi (by rw [e]))⟩
    have hlt := (Array.getElem?_eq_some_iff.1 H.m).1
    refine { b := H.b.grown hg (by omega) (fun k e => by cases e; exact Nat.le_refl _), m := setBlock_same H.m _, o := fun x hx => ?_ }
    rcases List.mem_append.1 hx with h | h
    · exact (H.o x h).grown hg
    · simp at h; subst h; exact hr.grown hg
section
variable {ops : Array Oper} {rest : List Oper} {o : Oper} {a : Act} {Q : Exit → Act → World → Prop}
theorem wpList_insert_rule {w : World} (hg : o.guard = none) (m key v : Operand) (hop : o.op = Op.insert 81 m key v) {N : Nat} {w0 : World} {L : List RuleV} (r : RuleV) (H : RInv N w0 w L) (hr : r.ok N w) {n : Nat} (hn : L.length = n)
    (hm : a.eval m = .map (some N)) (hk : a.eval key = .int .i64 (n : Nat)) (hv : a.eval v = r.val)
    (hK : ∀ w', RInv N w0 w' (L ++ [r]) → (L ++ [r]).length = n + 1 → wpList Tryz.prog ops Q rest (a.put o.dst undef) w') : wpList Tryz.prog ops Q (o :: rest) a w := by
  subst hn
  refine wpList_plain hg fun K' hK' => ?_
  unfold Oper.wp
  obtain ⟨w', hrun, hI, _⟩ := run_insert_rule H r hr
  simp [execOp, hop, hm, hk, hv, hrun, Result.andThen]
  exact hK' _ _ (hK w' hI (by simp))
end
set_option maxHeartbeats 1000000 in
theorem between_any (lo hi : Int) (w : World) : Calls Tryz.prog 89 #[.int .i64 lo, .int .i64 hi] w fun e w' =>
    e = .returned (.agg #[.func (.func 140) #[] #[.pointer (some ⟨w.heap.size, 0, none⟩), .pointer (some ⟨w.heap.size + 1, 0, none⟩)]]) ∧ ∃ o, ((w.alloc (.cells #[.int .i64 lo] 3)).alloc (.cells #[.int .i64 hi] 3)).alloc o = w' := by
  have hmf : ∀ (fn : Fn) (first cap : Array Value) (w : World), (Instr.makeFunc fn first cap).run Tryz.prog w = .ok (.func fn first cap) w := fun _ _ _ _ => rfl
  go_enter Tryz.func89, Tryz.ntmps89
  go_wp2
  exact bodyPost_ret (v := .agg #[.func (.func 140) #[] #[.pointer (some ⟨w.heap.size, 0, none⟩), .pointer (some ⟨w.heap.size + 1, 0, none⟩)]]) (by simp [results, Tryz.results89, go_sem]) rfl ⟨rfl, _, rfl⟩
theorem between_inv (lo hi : Int) {N : Nat} {w0 w : World} {L : List RuleV} (H : RInv N w0 w L) : Calls Tryz.prog 89 #[.int .i64 lo, .int .i64 hi] w fun e w' =>
    ∃ b, e = .returned (.agg #[.func (.func 140) #[] #[.pointer (some ⟨b, 0, none⟩), .pointer (some ⟨b + 1, 0, none⟩)]]) ∧ RInv N w0 w' L ∧ RuleV.ok N w' (.btw b lo hi) := by
  refine (between_any lo hi w).mono ?_
  rintro e w' ⟨rfl, o, rfl⟩
  have hlt := (Array.getElem?_eq_some_iff.1 H.m).1
  refine ⟨_, rfl, ((H.alloc _).alloc _).alloc _, hlt, ?_, ?_⟩
  · exact ((World.cell?_alloc_lt _ _ _ (by simp; omega)).trans (World.cell?_alloc_lt _ _ _ (by simp))).trans ((cell_of_row _ w.heap.size _ _ 3 (0, 0) (heap_alloc_new w _)).trans rfl)
  · have h1 := cell_of_row _ (w.alloc (.cells #[.int .i64 lo] 3)).heap.size 0 _ 3 (0, 0) (heap_alloc_new (w.alloc (.cells #[.int .i64 lo] 3)) (.cells #[.int .i64 hi] 3))
    rw [World.size_alloc] at h1
    exact (World.cell?_alloc_lt _ _ _ (by simp)).trans (h1.trans rfl)
theorem RInv.start (w : World) : RInv w.heap.size w (w.alloc (.map #[] 0)) [] :=
  { b := (Below.refl _ _).alloc (Nat.le_refl _) _, m := heap_alloc_new w _, o := fun r hr => by cases hr }
/-- The rules of all kinds of operands. -/
def ruleList (b0 b1 b3 b5 b6 b7 b8 b18 b19 b20 b22 b23 b24 : Nat) : List RuleV := [RuleV.btw b0 (0) 0, RuleV.btw b1 (-2147483647) 2147483647, RuleV.lit 90, RuleV.btw b3 (0) 1, RuleV.lit 91, RuleV.btw b5 (0) 200, RuleV.btw b6 (0) 1999, RuleV.btw b7 (-1) 1999, RuleV.btw b8 (0) 2000, RuleV.lit 92, RuleV.lit 93, RuleV.lit 94, RuleV.lit 95, RuleV.lit 96, RuleV.lit 97, RuleV.lit 98, RuleV.lit 99, RuleV.lit 100, RuleV.btw b18 (0) 8, RuleV.btw b19 (1) 4, RuleV.btw b20 (1) 2000, RuleV.lit 101, RuleV.btw b22 (3) 18, RuleV.btw b23 (1) 3, RuleV.btw b24 (2) 9]
set_option maxHeartbeats 4000000 in
theorem rules_any (w : World) : Calls Tryz.prog 45 #[] w fun e w' => e = .returned (.map (some w.heap.size)) ∧ ∃ b0 b1 b3 b5 b6 b7 b8 b18 b19 b20 b22 b23 b24, RInv w.heap.size w w' (ruleList b0 b1 b3 b5 b6 b7 b8 b18 b19 b20 b22 b23 b24) := by
  have hmm := @run_makeMap Tryz.prog
  have H0 := Lib.hid (RInv.start w)
  have L0 : Hid (([] : List RuleV).length = 0) := Lib.hid rfl
  go_enter Tryz.func45, Tryz.ntmps45
  go_wp2_with fail
  refine (between_inv _ _ H0.out).mono ?_
  rintro e w0 ⟨b0, rfl, hi, ho⟩
  have G0 := Lib.hid hi
  have O0 := Lib.hid ho
  clear hi ho H0
  go_wp2_with (first
    | (refine wpList_insert_rule rfl _ (.const (.int .i64 0)) _ rfl (.btw b0 (0) 0) G0.out O0.out L0.out rfl rfl rfl ?_; intro v0 hv hl; have H1 := Lib.hid hv; have L1 := Lib.hid hl; clear hv hl G0 O0 L0))
  refine (between_inv _ _ H1.out).mono ?_
  rintro e w1 ⟨b1, rfl, hi, ho⟩
  have G1 := Lib.hid hi
  have O1 := Lib.hid ho
  clear hi ho H1
  go_wp2_with (first
    | (refine wpList_insert_rule rfl _ (.const (.int .i64 1)) _ rfl (.btw b1 (-2147483647) 2147483647) G1.out O1.out L1.out rfl rfl rfl ?_; intro v1 hv hl; have H2 := Lib.hid hv; have L2 := Lib.hid hl; clear hv hl G1 O1 L1)
    | (refine wpList_insert_rule rfl _ (.const (.int .i64 2)) _ rfl (.lit 90) H2.out trivial L2.out rfl rfl rfl ?_; intro v2 hv hl; have H3 := Lib.hid hv; have L3 := Lib.hid hl; clear hv hl H2 L2))
  refine (between_inv _ _ H3.out).mono ?_
  rintro e w3 ⟨b3, rfl, hi, ho⟩
  have G3 := Lib.hid hi
  have O3 := Lib.hid ho
  clear hi ho H3
  go_wp2_with (first
    | (refine wpList_insert_rule rfl _ (.const (.int .i64 3)) _ rfl (.btw b3 (0) 1) G3.out O3.out L3.out rfl rfl rfl ?_; intro v3 hv hl; have H4 := Lib.hid hv; have L4 := Lib.hid hl; clear hv hl G3 O3 L3)
    | (refine wpList_insert_rule rfl _ (.const (.int .i64 4)) _ rfl (.lit 91) H4.out trivial L4.out rfl rfl rfl ?_; intro v4 hv hl; have H5 := Lib.hid hv; have L5 := Lib.hid hl; clear hv hl H4 L4))
  refine (between_inv _ _ H5.out).mono ?_
  rintro e w5 ⟨b5, rfl, hi, ho⟩
  have G5 := Lib.hid hi
  have O5 := Lib.hid ho
  clear hi ho H5
  go_wp2_with (first
    | (refine wpList_insert_rule rfl _ (.const (.int .i64 5)) _ rfl (.btw b5 (0) 200) G5.out O5.out L5.out rfl rfl rfl ?_; intro v5 hv hl; have H6 := Lib.hid hv; have L6 := Lib.hid hl; clear hv hl G5 O5 L5))
  refine (between_inv _ _ H6.out).mono ?_
  rintro e w6 ⟨b6, rfl, hi, ho⟩
  have G6 := Lib.hid hi
  have O6 := Lib.hid ho
  clear hi ho H6
  go_wp2_with (first
    | (refine wpList_insert_rule rfl _ (.const (.int .i64 6)) _ rfl (.btw b6 (0) 1999) G6.out O6.out L6.out rfl rfl rfl ?_; intro v6 hv hl; have H7 := Lib.hid hv; have L7 := Lib.hid hl; clear hv hl G6 O6 L6))
  refine (between_inv _ _ H7.out).mono ?_
  rintro e w7 ⟨b7, rfl, hi, ho⟩
  have G7 := Lib.hid hi
  have O7 := Lib.hid ho
  clear hi ho H7
  go_wp2_with (first
    | (refine wpList_insert_rule rfl _ (.const (.int .i64 7)) _ rfl (.btw b7 (-1) 1999) G7.out O7.out L7.out rfl rfl rfl ?_; intro v7 hv hl; have H8 := Lib.hid hv; have L8 := Lib.hid hl; clear hv hl G7 O7 L7))
  refine (between_inv _ _ H8.out).mono ?_
  rintro e w8 ⟨b8, rfl, hi, ho⟩
  have G8 := Lib.hid hi
  have O8 := Lib.hid ho
  clear hi ho H8
  go_wp2_with (first
    | (refine wpList_insert_rule rfl _ (.const (.int .i64 8)) _ rfl (.btw b8 (0) 2000) G8.out O8.out L8.out rfl rfl rfl ?_; intro v8 hv hl; have H9 := Lib.hid hv; have L9 := Lib.hid hl; clear hv hl G8 O8 L8)
    | (refine wpList_insert_rule rfl _ (.const (.int .i64 9)) _ rfl (.lit 92) H9.out trivial L9.out rfl rfl rfl ?_; intro v9 hv hl; have H10 := Lib.hid hv; have L10 := Lib.hid hl; clear hv hl H9 L9)
    | (refine wpList_insert_rule rfl _ (.const (.int .i64 10)) _ rfl (.lit 93) H10.out trivial L10.out rfl rfl rfl ?_; intro v10 hv hl; have H11 := Lib.hid hv; have L11 := Lib.hid hl; clear hv hl H10 L10)
    | (refine wpList_insert_rule rfl _ (.const (.int .i64 11)) _ rfl (.lit 94) H11.out trivial L11.out rfl rfl rfl ?_; intro v11 hv hl; have H12 := Lib.hid hv; have L12 := Lib.hid hl; clear hv hl H11 L11)
    | (refine wpList_insert_rule rfl _ (.const (.int .i64 12)) _ rfl (.lit 95) H12.out trivial L12.out rfl rfl rfl ?_; intro v12 hv hl; have H13 := Lib.hid hv; have L13 := Lib.hid hl; clear hv hl H12 L12)
    | (refine wpList_insert_rule rfl _ (.const (.int .i64 13)) _ rfl (.lit 96) H13.out trivial L13.out rfl rfl rfl ?_; intro v13 hv hl; have H14 := Lib.hid hv; have L14 := Lib.hid hl; clear hv hl H13 L13)
    | (refine wpList_insert_rule rfl _ (.const (.int .i64 14)) _ rfl (.lit 97) H14.out trivial L14.out rfl rfl rfl ?_; intro v14 hv hl; have H15 := Lib.hid hv; have L15 := Lib.hid hl; clear hv hl H14 L14)
    | (refine wpList_insert_rule rfl _ (.const (.int .i64 15)) _ rfl (.lit 98) H15.out trivial L15.out rfl rfl rfl ?_; intro v15 hv hl; have H16 := Lib.hid hv; have L16 := Lib.hid hl; clear hv hl H15 L15)
    | (refine wpList_insert_rule rfl _ (.const (.int .i64 16)) _ rfl (.lit 99) H16.out trivial L16.out rfl rfl rfl ?_; intro v16 hv hl; have H17 := Lib.hid hv; have L17 := Lib.hid hl; clear hv hl H16 L16)
    | (refine wpList_insert_rule rfl _ (.const (.int .i64 17)) _ rfl (.lit 100) H17.out trivial L17.out rfl rfl rfl ?_; intro v17 hv hl; have H18 := Lib.hid hv; have L18 := Lib.hid hl; clear hv hl H17 L17))
  refine (between_inv _ _ H18.out).mono ?_
  rintro e w18 ⟨b18, rfl, hi, ho⟩
  have G18 := Lib.hid hi
  have O18 := Lib.hid ho
  clear hi ho H18
  go_wp2_with (first
    | (refine wpList_insert_rule rfl _ (.const (.int .i64 18)) _ rfl (.btw b18 (0) 8) G18.out O18.out L18.out rfl rfl rfl ?_; intro v18 hv hl; have H19 := Lib.hid hv; have L19 := Lib.hid hl; clear hv hl G18 O18 L18))
  refine (between_inv _ _ H19.out).mono ?_
  rintro e w19 ⟨b19, rfl, hi, ho⟩
  have G19 := Lib.hid hi
  have O19 := Lib.hid ho
  clear hi ho H19
  go_wp2_with (first
    | (refine wpList_insert_rule rfl _ (.const (.int .i64 19)) _ rfl (.btw b19 (1) 4) G19.out O19.out L19.out rfl rfl rfl ?_; intro v19 hv hl; have H20 := Lib.hid hv; have L20 := Lib.hid hl; clear hv hl G19 O19 L19))
  refine (between_inv _ _ H20.out).mono ?_
  rintro e w20 ⟨b20, rfl, hi, ho⟩
  have G20 := Lib.hid hi
  have O20 := Lib.hid ho
  clear hi ho H20
  go_wp2_with (first
    | (refine wpList_insert_rule rfl _ (.const (.int .i64 20)) _ rfl (.btw b20 (1) 2000) G20.out O20.out L20.out rfl rfl rfl ?_; intro v20 hv hl; have H21 := Lib.hid hv; have L21 := Lib.hid hl; clear hv hl G20 O20 L20)
    | (refine wpList_insert_rule rfl _ (.const (.int .i64 21)) _ rfl (.lit 101) H21.out trivial L21.out rfl rfl rfl ?_; intro v21 hv hl; have H22 := Lib.hid hv; have L22 := Lib.hid hl; clear hv hl H21 L21))
  refine (between_inv _ _ H22.out).mono ?_
  rintro e w22 ⟨b22, rfl, hi, ho⟩
  have G22 := Lib.hid hi
  have O22 := Lib.hid ho
  clear hi ho H22
  go_wp2_with (first
    | (refine wpList_insert_rule rfl _ (.const (.int .i64 22)) _ rfl (.btw b22 (3) 18) G22.out O22.out L22.out rfl rfl rfl ?_; intro v22 hv hl; have H23 := Lib.hid hv; have L23 := Lib.hid hl; clear hv hl G22 O22 L22))
  refine (between_inv _ _ H23.out).mono ?_
  rintro e w23 ⟨b23, rfl, hi, ho⟩
  have G23 := Lib.hid hi
  have O23 := Lib.hid ho
  clear hi ho H23
  go_wp2_with (first
    | (refine wpList_insert_rule rfl _ (.const (.int .i64 23)) _ rfl (.btw b23 (1) 3) G23.out O23.out L23.out rfl rfl rfl ?_; intro v23 hv hl; have H24 := Lib.hid hv; have L24 := Lib.hid hl; clear hv hl G23 O23 L23))
  refine (between_inv _ _ H24.out).mono ?_
  rintro e w24 ⟨b24, rfl, hi, ho⟩
  have G24 := Lib.hid hi
  have O24 := Lib.hid ho
  clear hi ho H24
  go_wp2_with (first
    | (refine wpList_insert_rule rfl _ (.const (.int .i64 24)) _ rfl (.btw b24 (2) 9) G24.out O24.out L24.out rfl rfl rfl ?_; intro v24 hv hl; have H25 := Lib.hid hv; have L25 := Lib.hid hl; clear hv hl G24 O24 L24))
  have hf := H25.out
  simp only [List.nil_append, List.cons_append] at hf
  have HF := Lib.hid hf
  clear hf
  go_ret
  exact ⟨rfl, b0, b1, b3, b5, b6, b7, b8, b18, b19, b20, b22, b23, b24, HF.out⟩
end Go.Proofs.YtmfnholhhakgaaaGreatDoor
end
