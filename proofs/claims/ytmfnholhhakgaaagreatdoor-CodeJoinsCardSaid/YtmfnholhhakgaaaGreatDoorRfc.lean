/- The reference of chapter 14: the error of an instruction: the contract. -/
import Derived.Test.YtmfnholhhakgaaaGreatDoorRfb
import Derived.Deep.RegionHeld3
namespace Go.Proofs.YtmfnholhhakgaaaGreatDoor
open Go Go.Proofs Go.RowKit Go.Sort
set_option maxRecDepth 100000
set_option maxHeartbeats 2000000
/-- The kind's number of operand i. -/
def opKi (i : Nat) (n : Int) : Nat := match i with | 0 => (opK0 n).toNat | 1 => (opK1 n).toNat | _ => (opK2 n).toNat
def okI (c : CodeD) (x : InstrD) (i : Nat) : Bool := opnd c (opKi i x.op) (operandOf x i)
theorem insErr_eq {c : CodeD} {x : InstrD} (h : opIs x.op = true) : insErr c x = if okI c x 0 && okI c x 1 && okI c x 2 then 0 else 3 := by
  unfold insErr
  rw [if_neg (by rw [h]; simp)]
  rfl
theorem kinds_ok (n : Int) (h : opIs n = true) (i : Nat) (hi : i < 3) : (kStr n).size ≤ 3 ∧ (∀ hl : i < (kStr n).size, ((kStr n)[i].toNat : Int) ∈ letters ∧ letNo ((kStr n)[i].toNat : Int) = opKi i n) ∧ (¬ i < (kStr n).size → opKi i n = 0) := by
  obtain ⟨h1, h2⟩ := (opIs_iff n).1 h
  obtain ⟨k, rfl⟩ : ∃ k : Nat, n = (k + 1 : Nat) := ⟨(n - 1).toNat, by omega⟩
  have hk : k < 53 := by omega
  have hall : (List.range 53).all (fun k => (List.range 3).all fun i => decide ((kStr (k + 1 : Nat)).size ≤ 3 ∧ (∀ hl : i < (kStr (k + 1 : Nat)).size, ((kStr (k + 1 : Nat))[i].toNat : Int) ∈ letters ∧ letNo ((kStr (k + 1 : Nat))[i].toNat : Int) = opKi i (k + 1 : Nat)) ∧ (¬ i < (kStr (k + 1 : Nat)).size → opKi i (k + 1 : Nat) = 0))) = true := by decide +kernel
  exact of_decide_eq_true (List.all_eq_true.1 (List.all_eq_true.1 hall k (List.mem_range.2 hk)) i (List.mem_range.2 hi))
theorem ok_zero {c : CodeD} {x : InstrD} {i : Nat} (h : opKi i x.op = 0) : okI c x i = wiB (operandOf x i) 0 0 := by unfold okI; rw [h]; rfl
theorem ins_bad {c : CodeD} {x : InstrD} (h : opIs x.op = true) {i : Nat} (hi : i < 3) (hb : okI c x i = false) : insErr c x = 3 := by
  rw [insErr_eq h]
  match i, hi with
  | 0, _ => simp [hb]
  | 1, _ => simp [hb]
  | 2, _ => simp [hb]
theorem ins_good {c : CodeD} {x : InstrD} (h : opIs x.op = true) (hb : ∀ i, i < 3 → okI c x i = true) : insErr c x = 0 := by
  rw [insErr_eq h, hb 0 (by omega), hb 1 (by omega), hb 2 (by omega)]
  rfl
/-- A code in a box (block N), an instruction in the next one. -/
structure XInv (N : Nat) (h : CodeH) (x : InstrD) (w wr : World) : Prop where
  b : BInv N h w wr
  z : N + 2 ≤ wr.heap.size
  d0 : wr.cell? ⟨N + 1, 0, none⟩ = some (.int .i64 x.op)
  d1 : wr.cell? ⟨N + 1, 1, none⟩ = some (.int .i64 x.a)
  d2 : wr.cell? ⟨N + 1, 2, none⟩ = some (.int .i64 x.b)
  d3 : wr.cell? ⟨N + 1, 3, none⟩ = some (.int .i64 x.c)
theorem XInv.to {N : Nat} {h : CodeH} {x : InstrD} {w wr wx : World} (H : XInv N h x w wr) (hb : Below (N + 2) wr wx) : XInv N h x w wx :=
  { b := H.b.to (hb.mono (by omega)), z := Nat.le_trans H.z (by have := hb.size; have := H.z; omega)
    d0 := (hb.cell (p := ⟨N + 1, 0, none⟩) (by simp)).trans H.d0, d1 := (hb.cell (p := ⟨N + 1, 1, none⟩) (by simp)).trans H.d1, d2 := (hb.cell (p := ⟨N + 1, 2, none⟩) (by simp)).trans H.d2, d3 := (hb.cell (p := ⟨N + 1, 3, none⟩) (by simp)).trans H.d3 }
theorem XInv.below {N : Nat} {h : CodeH} {x : InstrD} {w wr wx : World} (H : XInv N h x w wr) (hb : Below wr.heap.size wr wx) : XInv N h x w wx := H.to (hb.mono H.z)
theorem XInv.drewN {N : Nat} {h : CodeH} {x : InstrD} {w wr : World} (H : XInv N h x w wr) (n : Nat) : XInv N h x w (wr.drewN n) := H.to (below_drewN (Below.refl _ _) n)
theorem XInv.drew {N : Nat} {h : CodeH} {x : InstrD} {w wr : World} (H : XInv N h x w wr) : XInv N h x w wr.drew := H.to ((Below.refl _ _).drew)
theorem XInv.start (h : CodeH) (x : InstrD) (w : World) : XInv w.heap.size h x w ((w.alloc (.cells #[.slice h.i.a h.i.n h.i.c, .slice h.p.a h.p.n h.p.c, .slice h.t.a h.t.n h.t.c, .slice h.s.a h.s.n h.s.c, .slice h.g.a h.g.n h.g.c, .slice h.r.a h.r.n h.r.c, .slice h.o.a h.o.n h.o.c] 30)).alloc (.cells #[.int .i64 x.op, .int .i64 x.a, .int .i64 x.b, .int .i64 x.c] 52)) := by
  have hn : ∀ (W : World) (cs : Array Value) t i, (W.alloc (.cells cs t)).cell? ⟨W.heap.size, i, none⟩ = cs[i]? := fun W cs t i => cell_of_row _ W.heap.size _ _ t (0, 0) (heap_alloc_new W _)
  have hz : w.heap.size + 1 = (w.alloc (.cells #[.slice h.i.a h.i.n h.i.c, .slice h.p.a h.p.n h.p.c, .slice h.t.a h.t.n h.t.c, .slice h.s.a h.s.n h.s.c, .slice h.g.a h.g.n h.g.c, .slice h.r.a h.r.n h.r.c, .slice h.o.a h.o.n h.o.c] 30)).heap.size := by simp
  refine { b := (BInv.start h w 30).alloc _, z := by simp, d0 := ?_, d1 := ?_, d2 := ?_, d3 := ?_ }
  all_goals (rw [hz]; exact hn _ _ _ _)
set_option maxHeartbeats 4000000 in
theorem instr_any (h : CodeH) (c : CodeD) (x : InstrD) (w : World) (H : CodeAt w w.heap.size h c) : Calls Tryz.prog 47 #[.agg #[.slice h.i.a h.i.n h.i.c, .slice h.p.a h.p.n h.p.c, .slice h.t.a h.t.n h.t.c, .slice h.s.a h.s.n h.s.c, .slice h.g.a h.g.n h.g.c, .slice h.r.a h.r.n h.r.c, .slice h.o.a h.o.n h.o.c], .agg #[.int .i64 x.op, .int .i64 x.a, .int .i64 x.b, .int .i64 x.c]] w
    fun e w' => e = .returned (.int .i64 (insErr c x)) ∧ Below w.heap.size w w' := by
  have HC := Lib.hid H
  have X0 := Lib.hid (XInv.start h x w)
  clear H
  cases ho : opIs x.op with
  | false =>
    have hr : (decide (1 ≤ x.op) && decide (x.op ≤ 53)) = false := by
      cases h : (decide (1 ≤ x.op) && decide (x.op ≤ 53)) with
      | false => rfl
      | true => rw [Bool.and_eq_true, decide_eq_true_eq, decide_eq_true_eq] at h; rw [(opIs_iff x.op).2 h] at ho; cases ho
    have HR := Lib.hid hr
    have HE := Lib.hid (insErr_bad (c := c) ho)
    clear hr ho
    go_enter Tryz.func47, Tryz.ntmps47
    go_wp2_with (go_at_call 27; refine (isop_any _ _).mono ?_; rintro e w3 ⟨rfl, rfl⟩; rw [HR.out])
    go_ret
    exact ⟨ret_int HE.out.symm, X0.out.b.b⟩
  | true =>
    have hop := (opIs_iff x.op).1 ho
    obtain ⟨hop1, hop2⟩ := hop
    have hr : (decide (1 ≤ x.op) && decide (x.op ≤ 53)) = true := by rw [Bool.and_eq_true, decide_eq_true_eq, decide_eq_true_eq]; exact ⟨hop1, hop2⟩
    have HR := Lib.hid hr
    have HO := Lib.hid ho
    have KO := Lib.hid (fun i hi => kinds_ok x.op ho i hi)
    have HK := Lib.hid (kinds_any x.op hop1 hop2)
    obtain ⟨t, ht⟩ : ∃ t, kStr x.op = t := ⟨_, rfl⟩
    rw [ht] at HK KO
    have ht3 : t.size ≤ 3 := (KO.out 0 (by omega)).1
    clear hr ho hop1 hop2 ht
    go_enter Tryz.func47, Tryz.ntmps47
    go_wp2_with (first
      | (go_at_call 27; refine (isop_any _ _).mono ?_; rintro e w3 ⟨rfl, rfl⟩; rw [HR.out])
      | (go_at_call 77; refine (HK.out _).mono ?_; rintro e w1 ⟨rfl, hb⟩; have X1 := Lib.hid (X0.out.below hb); clear hb))
    go_loopw [6] (fun i wr => ∃ m : Nat, m ≤ 3 ∧ i = .int .i64 m ∧ XInv w.heap.size h x w wr ∧ ∀ j, j < m → okI c x j = true) (fun i _ => 3 - (intOf i).toNat)
    case atStart => exact ⟨0, by omega, rfl, X1.out, fun j hj => by omega⟩
    case round =>
      obtain ⟨m, hm, rfl, hX, hno⟩ := hrel
      have XX := Lib.hid hX
      have HNO := Lib.hid hno
      clear hno hX X0 X1
      by_cases hlt : m < 3
      · have d0 := XX.out.d0
        have d1 := XX.out.d1
        have d2 := XX.out.d2
        have d3 := XX.out.d3
        obtain ⟨v, hv⟩ : ∃ v, operandOf x m = v := ⟨_, rfl⟩
        have HV := Lib.hid hv
        clear hv
        by_cases hl : m < t.size
        · obtain ⟨hL, hno⟩ := (KO.out m hlt).2.1 hl
          have HNM := Lib.hid hno
          have HLL := Lib.hid hL
          clear hno hL
          have hm0 : (0 : Int) ≤ (m : Int) := by omega
          have hml : (m : Int) < (t.size : Int) := by omega
          have hg1 : decide (t.size ≤ m) = false := by simpa using hl
          have hg2 : decide ((t.size : Int) ≤ (m : Int)) = false := by simpa using hl
          cases hok : okI c x m with
          | true =>
            have HOK := Lib.hid hok
            clear hok
            go_wp2_with (go_at_call 108; refine (Operand_any x m hlt _).mono ?_; rintro e w2 ⟨rfl, hb⟩; have X2 := Lib.hid (XX.out.below hb); clear hb d0 d1 d2 d3; rw [HV.out])
            have y0 := X2.out.b.c0; have y1 := X2.out.b.c1; have y2 := X2.out.b.c2; have y3 := X2.out.b.c3; have y4 := X2.out.b.c4; have y5 := X2.out.b.c5; have y6 := X2.out.b.c6
            refine wp_region_held_drew (S := (fun w' => w'.cell? ⟨w.heap.size, 0, none⟩ = some (.slice h.i.a h.i.n h.i.c) ∧ w'.cell? ⟨w.heap.size, 1, none⟩ = some (.slice h.p.a h.p.n h.p.c) ∧ w'.cell? ⟨w.heap.size, 2, none⟩ = some (.slice h.t.a h.t.n h.t.c) ∧ w'.cell? ⟨w.heap.size, 3, none⟩ = some (.slice h.s.a h.s.n h.s.c) ∧ w'.cell? ⟨w.heap.size, 4, none⟩ = some (.slice h.g.a h.g.n h.g.c) ∧ w'.cell? ⟨w.heap.size, 5, none⟩ = some (.slice h.r.a h.r.n h.r.c) ∧ w'.cell? ⟨w.heap.size, 6, none⟩ = some (.slice h.o.a h.o.n h.o.c))) (by kernel_rfl) ⟨y0, y1, y2, y3, y4, y5, y6⟩ (fun hHeld => ?_)
            refine wpAnyH_take (i := 0) (oi := { dst := some 22, op := Go.Op.move (Go.Operand.tmp 6), type := 3, pos := "ref.go:98", after := #[], guard := none }) (v := ?_) rfl (by kernel_rfl) (by kernel_rfl) (by kernel_rfl) (fun _ _ _ h => h) (Or.inl ⟨by rfl, ?_⟩) (by assumption) ?_
            rotate_left
            focus (intro w' hSw; (try dsimp only at hSw); go_simp; (try with_reducible rfl))
            try simp only [Act.put, List.setIfInBounds_toArray, List.set_cons_zero, List.set_cons_succ]
            refine wpAnyH_take (i := 1) (oi := { dst := some 23, op := Go.Op.move (Go.Operand.tmp 5), type := 9, pos := "ref.go:98", after := #[], guard := none }) (v := ?_) rfl (by kernel_rfl) (by kernel_rfl) (by kernel_rfl) (fun _ _ _ h => h) (Or.inl ⟨by rfl, ?_⟩) (by assumption) ?_
            rotate_left
            focus (intro w' hSw; (try dsimp only at hSw); go_simp; (try with_reducible rfl))
            try simp only [Act.put, List.setIfInBounds_toArray, List.set_cons_zero, List.set_cons_succ]
            refine wpAnyH_take (i := 2) (oi := { dst := some 24, op := Go.Op.call { callee := Go.Callee.builtin Go.Builtin.len, args := #[Go.Operand.tmp 23], argTypes := #[9] }, type := 3, pos := "ref.go:98", after := #[{ on := 1, ground := Go.Ground.data }], guard := none }) (v := ?_) rfl (by kernel_rfl) (by kernel_rfl) (by kernel_rfl) (fun _ _ _ h => h) (Or.inl ⟨by rfl, ?_⟩) (by assumption) ?_
            rotate_left
            focus (intro w' hSw; (try dsimp only at hSw); go_simp; (try with_reducible rfl))
            try simp only [Act.put, List.setIfInBounds_toArray, List.set_cons_zero, List.set_cons_succ]
            refine wpAnyH_take (i := 3) (oi := { dst := some 25, op := Go.Op.binOp Go.BinOp.lss 3 (Go.Operand.tmp 22) (Go.Operand.tmp 24) 3, type := 4, pos := "ref.go:98", after := #[{ on := 0, ground := Go.Ground.data }, { on := 2, ground := Go.Ground.data }], guard := none }) (v := ?_) rfl (by kernel_rfl) (by kernel_rfl) (by kernel_rfl) (fun _ _ _ h => h) (Or.inl ⟨by rfl, ?_⟩) (by assumption) ?_
            rotate_left
            focus (intro w' hSw; (try dsimp only at hSw); go_simp; (try with_reducible rfl))
            try simp only [Act.put, List.setIfInBounds_toArray, List.set_cons_zero, List.set_cons_succ]
            refine wpAnyH_take (i := 4) (oi := { dst := some 26, op := Go.Op.move (Go.Operand.tmp 25), type := 4, pos := "ref.go:98", after := #[{ on := 3, ground := Go.Ground.data }], guard := none }) (v := ?_) rfl (by kernel_rfl) (by kernel_rfl) (by kernel_rfl) (fun _ _ _ h => h) (Or.inl ⟨by rfl, ?_⟩) (by assumption) ?_
            rotate_left
            focus (intro w' hSw; (try dsimp only at hSw); go_simp; (try with_reducible rfl))
            try simp only [Act.put, List.setIfInBounds_toArray, List.set_cons_zero, List.set_cons_succ]
            refine wpAnyH_take (i := 5) (oi := { dst := some 27, op := Go.Op.load 30 (Go.Operand.tmp 2), type := 30, pos := "ref.go:98", after := #[{ on := 4, ground := Go.Ground.guard }], guard := some (4, true) }) (v := ?_) rfl (by kernel_rfl) (by kernel_rfl) (by kernel_rfl) (fun _ _ _ h => h) (Or.inl ⟨by rfl, ?_⟩) (by assumption) ?_
            rotate_left
            focus (intro w' hSw; (try dsimp only at hSw); go_simp; (try with_reducible rfl))
            try simp only [Act.put, List.setIfInBounds_toArray, List.set_cons_zero, List.set_cons_succ]
            refine wpAnyH_take (i := 6) (oi := { dst := some 28, op := Go.Op.move (Go.Operand.tmp 5), type := 9, pos := "ref.go:98", after := #[{ on := 4, ground := Go.Ground.guard }], guard := some (4, true) }) (v := ?_) rfl (by kernel_rfl) (by kernel_rfl) (by kernel_rfl) (fun _ _ _ h => h) (Or.inl ⟨by rfl, ?_⟩) (by assumption) ?_
            rotate_left
            focus (intro w' hSw; (try dsimp only at hSw); go_simp; (try with_reducible rfl))
            try simp only [Act.put, List.setIfInBounds_toArray, List.set_cons_zero, List.set_cons_succ]
            refine wpAnyH_take (i := 7) (oi := { dst := some 29, op := Go.Op.move (Go.Operand.tmp 6), type := 3, pos := "ref.go:98", after := #[{ on := 4, ground := Go.Ground.guard }], guard := some (4, true) }) (v := ?_) rfl (by kernel_rfl) (by kernel_rfl) (by kernel_rfl) (fun _ _ _ h => h) (Or.inl ⟨by rfl, ?_⟩) (by assumption) ?_
            rotate_left
            focus (intro w' hSw; (try dsimp only at hSw); go_simp; (try with_reducible rfl))
            try simp only [Act.put, List.setIfInBounds_toArray, List.set_cons_zero, List.set_cons_succ]
            refine wpAnyH_take (i := 8) (oi := { dst := some 30, op := Go.Op.index 9 (Go.Operand.tmp 28) (Go.Operand.tmp 29), type := 5, pos := "ref.go:98", after := #[{ on := 6, ground := Go.Ground.data }, { on := 7, ground := Go.Ground.data }, { on := 4, ground := Go.Ground.guard }], guard := some (4, true) }) (v := ?_) rfl (by kernel_rfl) (by kernel_rfl) (by kernel_rfl) (fun _ _ _ h => h) (Or.inl ⟨by rfl, ?_⟩) (by assumption) ?_
            rotate_left
            focus (intro w' hSw; (try dsimp only at hSw); go_simp; (try with_reducible rfl))
            try simp only [Act.put, List.setIfInBounds_toArray, List.set_cons_zero, List.set_cons_succ]
            refine wpAnyH_take (i := 9) (oi := { dst := some 31, op := Go.Op.move (Go.Operand.tmp 7), type := 3, pos := "ref.go:98", after := #[{ on := 4, ground := Go.Ground.guard }], guard := some (4, true) }) (v := ?_) rfl (by kernel_rfl) (by kernel_rfl) (by kernel_rfl) (fun _ _ _ h => h) (Or.inl ⟨by rfl, ?_⟩) (by assumption) ?_
            rotate_left
            focus (intro w' hSw; (try dsimp only at hSw); go_simp; (try with_reducible rfl))
            try simp only [Act.put, List.setIfInBounds_toArray, List.set_cons_zero, List.set_cons_succ]
            refine wpAnyH_ready (rs := [10]) (by kernel_rfl) (by simp) ?_
            refine AllReadyH.cons (o := { dst := some 32, op := Go.Op.call { callee := Go.Callee.value (Go.Operand.func 109), args := #[Go.Operand.tmp 27, Go.Operand.tmp 30, Go.Operand.tmp 31], argTypes := #[30, 5, 3] }, type := 4, pos := "ref.go:98", after := #[{ on := 5, ground := Go.Ground.data }, { on := 8, ground := Go.Ground.data }, { on := 9, ground := Go.Ground.data }, { on := 4, ground := Go.Ground.chain }, { on := 4, ground := Go.Ground.guard }], guard := some (4, true) }) rfl (fun K hK => ?_) AllReadyH.nil
            go_simp
            go_at_call 109
            refine (operand_any _ HLL.out h c v _ (HC.out.at X2.out.drew.b.b)).mono ?_
            rintro e w3 ⟨rfl, hb⟩
            have X3 := Lib.hid (X2.out.drew.below hb)
            clear hb
            rw [HNM.out, ← HV.out, show opnd c (opKi m x.op) (operandOf x m) = true from HOK.out]
            refine hK.out _ _ ⟨X3.out.b.c0, X3.out.b.c1, X3.out.b.c2, X3.out.b.c3, X3.out.b.c4, X3.out.b.c5, X3.out.b.c6⟩ (fun hHeld => ?_)
            clear hK K
            try simp only [Act.put, List.setIfInBounds_toArray, List.set_cons_zero, List.set_cons_succ]
            refine wpAnyH_take (i := 11) (oi := { dst := some 33, op := Go.Op.unOp Go.UnOp.not 4 (Go.Operand.tmp 32), type := 4, pos := "ref.go:98", after := #[{ on := 10, ground := Go.Ground.data }, { on := 4, ground := Go.Ground.guard }], guard := some (4, true) }) (v := ?_) rfl (by kernel_rfl) (by kernel_rfl) (by kernel_rfl) (fun _ _ _ h => h) (Or.inl ⟨by rfl, ?_⟩) (by assumption) ?_
            rotate_left
            focus (intro w' hSw; (try dsimp only at hSw); go_simp; (try with_reducible rfl))
            try simp only [Act.put, List.setIfInBounds_toArray, List.set_cons_zero, List.set_cons_succ]
            refine wpAnyH_take (i := 12) (oi := { dst := some 34, op := Go.Op.pick (Go.Operand.tmp 26) (Go.Operand.tmp 33) (Go.Operand.const (Go.Value.bool false)), type := 4, pos := "ref.go:98", after := #[{ on := 4, ground := Go.Ground.data }, { on := 11, ground := Go.Ground.data }], guard := none }) (v := ?_) rfl (by kernel_rfl) (by kernel_rfl) (by kernel_rfl) (fun _ _ _ h => h) (Or.inl ⟨by rfl, ?_⟩) (by assumption) ?_
            rotate_left
            focus (intro w' hSw; (try dsimp only at hSw); go_simp; (try with_reducible rfl))
            try simp only [Act.put, List.setIfInBounds_toArray, List.set_cons_zero, List.set_cons_succ]
            refine wpAnyH_take (i := 13) (oi := { dst := some 35, op := Go.Op.move (Go.Operand.tmp 34), type := 4, pos := "ref.go:98", after := #[{ on := 12, ground := Go.Ground.data }, { on := 10, ground := Go.Ground.chain }], guard := none }) (v := ?_) rfl (by kernel_rfl) (by kernel_rfl) (by kernel_rfl) (fun _ _ _ h => h) (Or.inl ⟨by rfl, ?_⟩) (by assumption) ?_
            rotate_left
            focus (intro w' hSw; (try dsimp only at hSw); go_simp; (try with_reducible rfl))
            try simp only [Act.put, List.setIfInBounds_toArray, List.set_cons_zero, List.set_cons_succ]
            refine wpAnyH_take (i := 14) (oi := { dst := some 36, op := Go.Op.move (Go.Operand.tmp 6), type := 3, pos := "ref.go:98", after := #[{ on := 13, ground := Go.Ground.guard }], guard := some (13, false) }) (v := ?_) rfl (by kernel_rfl) (by kernel_rfl) (by kernel_rfl) (fun _ _ _ h => h) (Or.inl ⟨by rfl, ?_⟩) (by assumption) ?_
            rotate_left
            focus (intro w' hSw; (try dsimp only at hSw); go_simp; (try with_reducible rfl))
            try simp only [Act.put, List.setIfInBounds_toArray, List.set_cons_zero, List.set_cons_succ]
            refine wpAnyH_take (i := 15) (oi := { dst := some 37, op := Go.Op.move (Go.Operand.tmp 5), type := 9, pos := "ref.go:98", after := #[{ on := 13, ground := Go.Ground.guard }], guard := some (13, false) }) (v := ?_) rfl (by kernel_rfl) (by kernel_rfl) (by kernel_rfl) (fun _ _ _ h => h) (Or.inl ⟨by rfl, ?_⟩) (by assumption) ?_
            rotate_left
            focus (intro w' hSw; (try dsimp only at hSw); go_simp; (try with_reducible rfl))
            try simp only [Act.put, List.setIfInBounds_toArray, List.set_cons_zero, List.set_cons_succ]
            refine wpAnyH_take (i := 16) (oi := { dst := some 38, op := Go.Op.call { callee := Go.Callee.builtin Go.Builtin.len, args := #[Go.Operand.tmp 37], argTypes := #[9] }, type := 3, pos := "ref.go:98", after := #[{ on := 15, ground := Go.Ground.data }, { on := 13, ground := Go.Ground.guard }], guard := some (13, false) }) (v := ?_) rfl (by kernel_rfl) (by kernel_rfl) (by kernel_rfl) (fun _ _ _ h => h) (Or.inl ⟨by rfl, ?_⟩) (by assumption) ?_
            rotate_left
            focus (intro w' hSw; (try dsimp only at hSw); go_simp; (try with_reducible rfl))
            try simp only [Act.put, List.setIfInBounds_toArray, List.set_cons_zero, List.set_cons_succ]
            refine wpAnyH_take (i := 17) (oi := { dst := some 39, op := Go.Op.binOp Go.BinOp.geq 3 (Go.Operand.tmp 36) (Go.Operand.tmp 38) 3, type := 4, pos := "ref.go:98", after := #[{ on := 14, ground := Go.Ground.data }, { on := 16, ground := Go.Ground.data }, { on := 13, ground := Go.Ground.guard }], guard := some (13, false) }) (v := ?_) rfl (by kernel_rfl) (by kernel_rfl) (by kernel_rfl) (fun _ _ _ h => h) (Or.inl ⟨by rfl, ?_⟩) (by assumption) ?_
            rotate_left
            focus (intro w' hSw; (try dsimp only at hSw); go_simp; (try with_reducible rfl))
            try simp only [Act.put, List.setIfInBounds_toArray, List.set_cons_zero, List.set_cons_succ]
            refine wpAnyH_take (i := 18) (oi := { dst := some 40, op := Go.Op.move (Go.Operand.tmp 39), type := 4, pos := "ref.go:98", after := #[{ on := 17, ground := Go.Ground.data }, { on := 13, ground := Go.Ground.chain }, { on := 13, ground := Go.Ground.guard }], guard := some (13, false) }) (v := ?_) rfl (by kernel_rfl) (by kernel_rfl) (by kernel_rfl) (fun _ _ _ h => h) (Or.inl ⟨by rfl, ?_⟩) (by assumption) ?_
            rotate_left
            focus (intro w' hSw; (try dsimp only at hSw); go_simp; (try with_reducible rfl))
            try simp only [Act.put, List.setIfInBounds_toArray, List.set_cons_zero, List.set_cons_succ]
            refine wpAnyH_take (i := 19) (oi := { dst := some 41, op := Go.Op.move (Go.Operand.tmp 7), type := 3, pos := "ref.go:98", after := #[{ on := 18, ground := Go.Ground.guard }], guard := some (18, true) }) rfl (by kernel_rfl) (by kernel_rfl) (by kernel_rfl) (fun _ _ _ h => h) (Or.inr ⟨by rfl, rfl⟩) (by assumption) ?_
            try simp only [Act.put, List.setIfInBounds_toArray, List.set_cons_zero, List.set_cons_succ]
            refine wpAnyH_take (i := 20) (oi := { dst := some 42, op := Go.Op.binOp Go.BinOp.neq 3 (Go.Operand.tmp 41) (Go.Operand.const (Go.Value.int Go.IntKind.i64 0)) 3, type := 4, pos := "ref.go:98", after := #[{ on := 19, ground := Go.Ground.data }, { on := 18, ground := Go.Ground.guard }], guard := some (18, true) }) rfl (by kernel_rfl) (by kernel_rfl) (by kernel_rfl) (fun _ _ _ h => h) (Or.inr ⟨by rfl, rfl⟩) (by assumption) ?_
            try simp only [Act.put, List.setIfInBounds_toArray, List.set_cons_zero, List.set_cons_succ]
            refine wpAnyH_take (i := 21) (oi := { dst := some 43, op := Go.Op.pick (Go.Operand.tmp 40) (Go.Operand.tmp 42) (Go.Operand.const (Go.Value.bool false)), type := 4, pos := "ref.go:98", after := #[{ on := 18, ground := Go.Ground.data }, { on := 20, ground := Go.Ground.data }, { on := 13, ground := Go.Ground.guard }], guard := some (13, false) }) (v := ?_) rfl (by kernel_rfl) (by kernel_rfl) (by kernel_rfl) (fun _ _ _ h => h) (Or.inl ⟨by rfl, ?_⟩) (by assumption) ?_
            rotate_left
            focus (intro w' hSw; (try dsimp only at hSw); go_simp; (try with_reducible rfl))
            try simp only [Act.put, List.setIfInBounds_toArray, List.set_cons_zero, List.set_cons_succ]
            refine wpAnyH_take (i := 22) (oi := { dst := some 44, op := Go.Op.pick (Go.Operand.tmp 35) (Go.Operand.const (Go.Value.bool true)) (Go.Operand.tmp 43), type := 4, pos := "ref.go:98", after := #[{ on := 13, ground := Go.Ground.data }, { on := 21, ground := Go.Ground.data }], guard := none }) (v := ?_) rfl (by kernel_rfl) (by kernel_rfl) (by kernel_rfl) (fun _ _ _ h => h) (Or.inl ⟨by rfl, ?_⟩) (by assumption) ?_
            rotate_left
            focus (intro w' hSw; (try dsimp only at hSw); go_simp; (try with_reducible rfl))
            try simp only [Act.put, List.setIfInBounds_toArray, List.set_cons_zero, List.set_cons_succ]
            refine wpAnyH_done (by kernel_rfl) ?_ _
            go_wp2
            go_roundw
            case rel => exact ⟨m + 1, by omega, by go_num, X3.out, fun j hj => by
              rcases Nat.lt_succ_iff_lt_or_eq.1 hj with h | rfl
              · exact HNO.out j h
              · exact HOK.out⟩
            case measure => simp [intOf]; omega
          | false =>
            have HOK := Lib.hid hok
            clear hok
            go_wp2_with (go_at_call 108; refine (Operand_any x m hlt _).mono ?_; rintro e w2 ⟨rfl, hb⟩; have X2 := Lib.hid (XX.out.below hb); clear hb d0 d1 d2 d3; rw [HV.out])
            have y0 := X2.out.b.c0; have y1 := X2.out.b.c1; have y2 := X2.out.b.c2; have y3 := X2.out.b.c3; have y4 := X2.out.b.c4; have y5 := X2.out.b.c5; have y6 := X2.out.b.c6
            refine wp_region_held_drew (S := (fun w' => w'.cell? ⟨w.heap.size, 0, none⟩ = some (.slice h.i.a h.i.n h.i.c) ∧ w'.cell? ⟨w.heap.size, 1, none⟩ = some (.slice h.p.a h.p.n h.p.c) ∧ w'.cell? ⟨w.heap.size, 2, none⟩ = some (.slice h.t.a h.t.n h.t.c) ∧ w'.cell? ⟨w.heap.size, 3, none⟩ = some (.slice h.s.a h.s.n h.s.c) ∧ w'.cell? ⟨w.heap.size, 4, none⟩ = some (.slice h.g.a h.g.n h.g.c) ∧ w'.cell? ⟨w.heap.size, 5, none⟩ = some (.slice h.r.a h.r.n h.r.c) ∧ w'.cell? ⟨w.heap.size, 6, none⟩ = some (.slice h.o.a h.o.n h.o.c))) (by kernel_rfl) ⟨y0, y1, y2, y3, y4, y5, y6⟩ (fun hHeld => ?_)
            refine wpAnyH_take (i := 0) (oi := { dst := some 22, op := Go.Op.move (Go.Operand.tmp 6), type := 3, pos := "ref.go:98", after := #[], guard := none }) (v := ?_) rfl (by kernel_rfl) (by kernel_rfl) (by kernel_rfl) (fun _ _ _ h => h) (Or.inl ⟨by rfl, ?_⟩) (by assumption) ?_
            rotate_left
            focus (intro w' hSw; (try dsimp only at hSw); go_simp; (try with_reducible rfl))
            try simp only [Act.put, List.setIfInBounds_toArray, List.set_cons_zero, List.set_cons_succ]
            refine wpAnyH_take (i := 1) (oi := { dst := some 23, op := Go.Op.move (Go.Operand.tmp 5), type := 9, pos := "ref.go:98", after := #[], guard := none }) (v := ?_) rfl (by kernel_rfl) (by kernel_rfl) (by kernel_rfl) (fun _ _ _ h => h) (Or.inl ⟨by rfl, ?_⟩) (by assumption) ?_
            rotate_left
            focus (intro w' hSw; (try dsimp only at hSw); go_simp; (try with_reducible rfl))
            try simp only [Act.put, List.setIfInBounds_toArray, List.set_cons_zero, List.set_cons_succ]
            refine wpAnyH_take (i := 2) (oi := { dst := some 24, op := Go.Op.call { callee := Go.Callee.builtin Go.Builtin.len, args := #[Go.Operand.tmp 23], argTypes := #[9] }, type := 3, pos := "ref.go:98", after := #[{ on := 1, ground := Go.Ground.data }], guard := none }) (v := ?_) rfl (by kernel_rfl) (by kernel_rfl) (by kernel_rfl) (fun _ _ _ h => h) (Or.inl ⟨by rfl, ?_⟩) (by assumption) ?_
            rotate_left
            focus (intro w' hSw; (try dsimp only at hSw); go_simp; (try with_reducible rfl))
            try simp only [Act.put, List.setIfInBounds_toArray, List.set_cons_zero, List.set_cons_succ]
            refine wpAnyH_take (i := 3) (oi := { dst := some 25, op := Go.Op.binOp Go.BinOp.lss 3 (Go.Operand.tmp 22) (Go.Operand.tmp 24) 3, type := 4, pos := "ref.go:98", after := #[{ on := 0, ground := Go.Ground.data }, { on := 2, ground := Go.Ground.data }], guard := none }) (v := ?_) rfl (by kernel_rfl) (by kernel_rfl) (by kernel_rfl) (fun _ _ _ h => h) (Or.inl ⟨by rfl, ?_⟩) (by assumption) ?_
            rotate_left
            focus (intro w' hSw; (try dsimp only at hSw); go_simp; (try with_reducible rfl))
            try simp only [Act.put, List.setIfInBounds_toArray, List.set_cons_zero, List.set_cons_succ]
            refine wpAnyH_take (i := 4) (oi := { dst := some 26, op := Go.Op.move (Go.Operand.tmp 25), type := 4, pos := "ref.go:98", after := #[{ on := 3, ground := Go.Ground.data }], guard := none }) (v := ?_) rfl (by kernel_rfl) (by kernel_rfl) (by kernel_rfl) (fun _ _ _ h => h) (Or.inl ⟨by rfl, ?_⟩) (by assumption) ?_
            rotate_left
            focus (intro w' hSw; (try dsimp only at hSw); go_simp; (try with_reducible rfl))
            try simp only [Act.put, List.setIfInBounds_toArray, List.set_cons_zero, List.set_cons_succ]
            refine wpAnyH_take (i := 5) (oi := { dst := some 27, op := Go.Op.load 30 (Go.Operand.tmp 2), type := 30, pos := "ref.go:98", after := #[{ on := 4, ground := Go.Ground.guard }], guard := some (4, true) }) (v := ?_) rfl (by kernel_rfl) (by kernel_rfl) (by kernel_rfl) (fun _ _ _ h => h) (Or.inl ⟨by rfl, ?_⟩) (by assumption) ?_
            rotate_left
            focus (intro w' hSw; (try dsimp only at hSw); go_simp; (try with_reducible rfl))
            try simp only [Act.put, List.setIfInBounds_toArray, List.set_cons_zero, List.set_cons_succ]
            refine wpAnyH_take (i := 6) (oi := { dst := some 28, op := Go.Op.move (Go.Operand.tmp 5), type := 9, pos := "ref.go:98", after := #[{ on := 4, ground := Go.Ground.guard }], guard := some (4, true) }) (v := ?_) rfl (by kernel_rfl) (by kernel_rfl) (by kernel_rfl) (fun _ _ _ h => h) (Or.inl ⟨by rfl, ?_⟩) (by assumption) ?_
            rotate_left
            focus (intro w' hSw; (try dsimp only at hSw); go_simp; (try with_reducible rfl))
            try simp only [Act.put, List.setIfInBounds_toArray, List.set_cons_zero, List.set_cons_succ]
            refine wpAnyH_take (i := 7) (oi := { dst := some 29, op := Go.Op.move (Go.Operand.tmp 6), type := 3, pos := "ref.go:98", after := #[{ on := 4, ground := Go.Ground.guard }], guard := some (4, true) }) (v := ?_) rfl (by kernel_rfl) (by kernel_rfl) (by kernel_rfl) (fun _ _ _ h => h) (Or.inl ⟨by rfl, ?_⟩) (by assumption) ?_
            rotate_left
            focus (intro w' hSw; (try dsimp only at hSw); go_simp; (try with_reducible rfl))
            try simp only [Act.put, List.setIfInBounds_toArray, List.set_cons_zero, List.set_cons_succ]
            refine wpAnyH_take (i := 8) (oi := { dst := some 30, op := Go.Op.index 9 (Go.Operand.tmp 28) (Go.Operand.tmp 29), type := 5, pos := "ref.go:98", after := #[{ on := 6, ground := Go.Ground.data }, { on := 7, ground := Go.Ground.data }, { on := 4, ground := Go.Ground.guard }], guard := some (4, true) }) (v := ?_) rfl (by kernel_rfl) (by kernel_rfl) (by kernel_rfl) (fun _ _ _ h => h) (Or.inl ⟨by rfl, ?_⟩) (by assumption) ?_
            rotate_left
            focus (intro w' hSw; (try dsimp only at hSw); go_simp; (try with_reducible rfl))
            try simp only [Act.put, List.setIfInBounds_toArray, List.set_cons_zero, List.set_cons_succ]
            refine wpAnyH_take (i := 9) (oi := { dst := some 31, op := Go.Op.move (Go.Operand.tmp 7), type := 3, pos := "ref.go:98", after := #[{ on := 4, ground := Go.Ground.guard }], guard := some (4, true) }) (v := ?_) rfl (by kernel_rfl) (by kernel_rfl) (by kernel_rfl) (fun _ _ _ h => h) (Or.inl ⟨by rfl, ?_⟩) (by assumption) ?_
            rotate_left
            focus (intro w' hSw; (try dsimp only at hSw); go_simp; (try with_reducible rfl))
            try simp only [Act.put, List.setIfInBounds_toArray, List.set_cons_zero, List.set_cons_succ]
            refine wpAnyH_ready (rs := [10]) (by kernel_rfl) (by simp) ?_
            refine AllReadyH.cons (o := { dst := some 32, op := Go.Op.call { callee := Go.Callee.value (Go.Operand.func 109), args := #[Go.Operand.tmp 27, Go.Operand.tmp 30, Go.Operand.tmp 31], argTypes := #[30, 5, 3] }, type := 4, pos := "ref.go:98", after := #[{ on := 5, ground := Go.Ground.data }, { on := 8, ground := Go.Ground.data }, { on := 9, ground := Go.Ground.data }, { on := 4, ground := Go.Ground.chain }, { on := 4, ground := Go.Ground.guard }], guard := some (4, true) }) rfl (fun K hK => ?_) AllReadyH.nil
            go_simp
            go_at_call 109
            refine (operand_any _ HLL.out h c v _ (HC.out.at X2.out.drew.b.b)).mono ?_
            rintro e w3 ⟨rfl, hb⟩
            have X3 := Lib.hid (X2.out.drew.below hb)
            clear hb
            rw [HNM.out, ← HV.out, show opnd c (opKi m x.op) (operandOf x m) = false from HOK.out]
            refine hK.out _ _ ⟨X3.out.b.c0, X3.out.b.c1, X3.out.b.c2, X3.out.b.c3, X3.out.b.c4, X3.out.b.c5, X3.out.b.c6⟩ (fun hHeld => ?_)
            clear hK K
            try simp only [Act.put, List.setIfInBounds_toArray, List.set_cons_zero, List.set_cons_succ]
            refine wpAnyH_take (i := 11) (oi := { dst := some 33, op := Go.Op.unOp Go.UnOp.not 4 (Go.Operand.tmp 32), type := 4, pos := "ref.go:98", after := #[{ on := 10, ground := Go.Ground.data }, { on := 4, ground := Go.Ground.guard }], guard := some (4, true) }) (v := ?_) rfl (by kernel_rfl) (by kernel_rfl) (by kernel_rfl) (fun _ _ _ h => h) (Or.inl ⟨by rfl, ?_⟩) (by assumption) ?_
            rotate_left
            focus (intro w' hSw; (try dsimp only at hSw); go_simp; (try with_reducible rfl))
            try simp only [Act.put, List.setIfInBounds_toArray, List.set_cons_zero, List.set_cons_succ]
            refine wpAnyH_take (i := 12) (oi := { dst := some 34, op := Go.Op.pick (Go.Operand.tmp 26) (Go.Operand.tmp 33) (Go.Operand.const (Go.Value.bool false)), type := 4, pos := "ref.go:98", after := #[{ on := 4, ground := Go.Ground.data }, { on := 11, ground := Go.Ground.data }], guard := none }) (v := ?_) rfl (by kernel_rfl) (by kernel_rfl) (by kernel_rfl) (fun _ _ _ h => h) (Or.inl ⟨by rfl, ?_⟩) (by assumption) ?_
            rotate_left
            focus (intro w' hSw; (try dsimp only at hSw); go_simp; (try with_reducible rfl))
            try simp only [Act.put, List.setIfInBounds_toArray, List.set_cons_zero, List.set_cons_succ]
            refine wpAnyH_take (i := 13) (oi := { dst := some 35, op := Go.Op.move (Go.Operand.tmp 34), type := 4, pos := "ref.go:98", after := #[{ on := 12, ground := Go.Ground.data }, { on := 10, ground := Go.Ground.chain }], guard := none }) (v := ?_) rfl (by kernel_rfl) (by kernel_rfl) (by kernel_rfl) (fun _ _ _ h => h) (Or.inl ⟨by rfl, ?_⟩) (by assumption) ?_
            rotate_left
            focus (intro w' hSw; (try dsimp only at hSw); go_simp; (try with_reducible rfl))
            try simp only [Act.put, List.setIfInBounds_toArray, List.set_cons_zero, List.set_cons_succ]
            refine wpAnyH_take (i := 14) (oi := { dst := some 36, op := Go.Op.move (Go.Operand.tmp 6), type := 3, pos := "ref.go:98", after := #[{ on := 13, ground := Go.Ground.guard }], guard := some (13, false) }) rfl (by kernel_rfl) (by kernel_rfl) (by kernel_rfl) (fun _ _ _ h => h) (Or.inr ⟨by rfl, rfl⟩) (by assumption) ?_
            try simp only [Act.put, List.setIfInBounds_toArray, List.set_cons_zero, List.set_cons_succ]
            refine wpAnyH_take (i := 15) (oi := { dst := some 37, op := Go.Op.move (Go.Operand.tmp 5), type := 9, pos := "ref.go:98", after := #[{ on := 13, ground := Go.Ground.guard }], guard := some (13, false) }) rfl (by kernel_rfl) (by kernel_rfl) (by kernel_rfl) (fun _ _ _ h => h) (Or.inr ⟨by rfl, rfl⟩) (by assumption) ?_
            try simp only [Act.put, List.setIfInBounds_toArray, List.set_cons_zero, List.set_cons_succ]
            refine wpAnyH_take (i := 16) (oi := { dst := some 38, op := Go.Op.call { callee := Go.Callee.builtin Go.Builtin.len, args := #[Go.Operand.tmp 37], argTypes := #[9] }, type := 3, pos := "ref.go:98", after := #[{ on := 15, ground := Go.Ground.data }, { on := 13, ground := Go.Ground.guard }], guard := some (13, false) }) rfl (by kernel_rfl) (by kernel_rfl) (by kernel_rfl) (fun _ _ _ h => h) (Or.inr ⟨by rfl, rfl⟩) (by assumption) ?_
            try simp only [Act.put, List.setIfInBounds_toArray, List.set_cons_zero, List.set_cons_succ]
            refine wpAnyH_take (i := 17) (oi := { dst := some 39, op := Go.Op.binOp Go.BinOp.geq 3 (Go.Operand.tmp 36) (Go.Operand.tmp 38) 3, type := 4, pos := "ref.go:98", after := #[{ on := 14, ground := Go.Ground.data }, { on := 16, ground := Go.Ground.data }, { on := 13, ground := Go.Ground.guard }], guard := some (13, false) }) rfl (by kernel_rfl) (by kernel_rfl) (by kernel_rfl) (fun _ _ _ h => h) (Or.inr ⟨by rfl, rfl⟩) (by assumption) ?_
            try simp only [Act.put, List.setIfInBounds_toArray, List.set_cons_zero, List.set_cons_succ]
            refine wpAnyH_take (i := 18) (oi := { dst := some 40, op := Go.Op.move (Go.Operand.tmp 39), type := 4, pos := "ref.go:98", after := #[{ on := 17, ground := Go.Ground.data }, { on := 13, ground := Go.Ground.chain }, { on := 13, ground := Go.Ground.guard }], guard := some (13, false) }) rfl (by kernel_rfl) (by kernel_rfl) (by kernel_rfl) (fun _ _ _ h => h) (Or.inr ⟨by rfl, rfl⟩) (by assumption) ?_
            try simp only [Act.put, List.setIfInBounds_toArray, List.set_cons_zero, List.set_cons_succ]
            refine wpAnyH_take (i := 19) (oi := { dst := some 41, op := Go.Op.move (Go.Operand.tmp 7), type := 3, pos := "ref.go:98", after := #[{ on := 18, ground := Go.Ground.guard }], guard := some (18, true) }) rfl (by kernel_rfl) (by kernel_rfl) (by kernel_rfl) (fun _ _ _ h => h) (Or.inr ⟨by rfl, rfl⟩) (by assumption) ?_
            try simp only [Act.put, List.setIfInBounds_toArray, List.set_cons_zero, List.set_cons_succ]
            refine wpAnyH_take (i := 20) (oi := { dst := some 42, op := Go.Op.binOp Go.BinOp.neq 3 (Go.Operand.tmp 41) (Go.Operand.const (Go.Value.int Go.IntKind.i64 0)) 3, type := 4, pos := "ref.go:98", after := #[{ on := 19, ground := Go.Ground.data }, { on := 18, ground := Go.Ground.guard }], guard := some (18, true) }) rfl (by kernel_rfl) (by kernel_rfl) (by kernel_rfl) (fun _ _ _ h => h) (Or.inr ⟨by rfl, rfl⟩) (by assumption) ?_
            try simp only [Act.put, List.setIfInBounds_toArray, List.set_cons_zero, List.set_cons_succ]
            refine wpAnyH_take (i := 21) (oi := { dst := some 43, op := Go.Op.pick (Go.Operand.tmp 40) (Go.Operand.tmp 42) (Go.Operand.const (Go.Value.bool false)), type := 4, pos := "ref.go:98", after := #[{ on := 18, ground := Go.Ground.data }, { on := 20, ground := Go.Ground.data }, { on := 13, ground := Go.Ground.guard }], guard := some (13, false) }) rfl (by kernel_rfl) (by kernel_rfl) (by kernel_rfl) (fun _ _ _ h => h) (Or.inr ⟨by rfl, rfl⟩) (by assumption) ?_
            try simp only [Act.put, List.setIfInBounds_toArray, List.set_cons_zero, List.set_cons_succ]
            refine wpAnyH_take (i := 22) (oi := { dst := some 44, op := Go.Op.pick (Go.Operand.tmp 35) (Go.Operand.const (Go.Value.bool true)) (Go.Operand.tmp 43), type := 4, pos := "ref.go:98", after := #[{ on := 13, ground := Go.Ground.data }, { on := 21, ground := Go.Ground.data }], guard := none }) (v := ?_) rfl (by kernel_rfl) (by kernel_rfl) (by kernel_rfl) (fun _ _ _ h => h) (Or.inl ⟨by rfl, ?_⟩) (by assumption) ?_
            rotate_left
            focus (intro w' hSw; (try dsimp only at hSw); go_simp; (try with_reducible rfl))
            try simp only [Act.put, List.setIfInBounds_toArray, List.set_cons_zero, List.set_cons_succ]
            refine wpAnyH_done (by kernel_rfl) ?_ _
            go_wp2
            go_ret
            exact ⟨ret_int (ins_bad HO.out hlt HOK.out).symm, X3.out.b.b⟩
        · have HZ := Lib.hid (ok_zero (c := c) ((KO.out m hlt).2.2 hl))
          have hg0 : decide (m < t.size) = false := by simpa using hl
          have hg1 : decide (t.size ≤ m) = true := by simpa using hl
          have hg2 : decide ((t.size : Int) ≤ (m : Int)) = true := by simpa using hl
          have hg3 : decide ((m : Int) < (t.size : Int)) = false := by simpa using hl
          cases hvz : (v != 0) with
          | true =>
            have HB : Hid (okI c x m = false) := Lib.hid (by
              rw [HZ.out, HV.out]
              unfold wiB
              rw [Bool.eq_false_iff]
              simp at hvz ⊢
              omega)
            go_wp2_with (go_at_call 108; refine (Operand_any x m hlt _).mono ?_; rintro e w2 ⟨rfl, hb⟩; have X2 := Lib.hid (XX.out.below hb); clear hb d0 d1 d2 d3; rw [HV.out])
            have y0 := X2.out.b.c0; have y1 := X2.out.b.c1; have y2 := X2.out.b.c2; have y3 := X2.out.b.c3; have y4 := X2.out.b.c4; have y5 := X2.out.b.c5; have y6 := X2.out.b.c6
            go_quiet (fail)
            go_wp2
            go_ret
            exact ⟨ret_int (ins_bad HO.out hlt HB.out).symm, (X2.out.drewN _).b.b⟩
          | false =>
            have HG : Hid (okI c x m = true) := Lib.hid (by
              rw [HZ.out, HV.out]
              unfold wiB
              simp at hvz ⊢
              omega)
            go_wp2_with (go_at_call 108; refine (Operand_any x m hlt _).mono ?_; rintro e w2 ⟨rfl, hb⟩; have X2 := Lib.hid (XX.out.below hb); clear hb d0 d1 d2 d3; rw [HV.out])
            have y0 := X2.out.b.c0; have y1 := X2.out.b.c1; have y2 := X2.out.b.c2; have y3 := X2.out.b.c3; have y4 := X2.out.b.c4; have y5 := X2.out.b.c5; have y6 := X2.out.b.c6
            go_quiet (fail)
            go_wp2
            go_roundw
            case rel => exact ⟨m + 1, by omega, by go_num, X2.out.drewN _, fun j hj => by
              rcases Nat.lt_succ_iff_lt_or_eq.1 hj with h | rfl
              · exact HNO.out j h
              · exact HG.out⟩
            case measure => simp [intOf]; omega
      · obtain rfl : m = 3 := by omega
        have HE := Lib.hid (ins_good (c := c) HO.out HNO.out)
        go_wp2
        go_ret
        exact ⟨ret_int HE.out.symm, XX.out.b.b⟩
end Go.Proofs.YtmfnholhhakgaaaGreatDoor
